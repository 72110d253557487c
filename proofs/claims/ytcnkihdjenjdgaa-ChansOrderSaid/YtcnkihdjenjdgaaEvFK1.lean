/- The evaluator's functions. -/
import Derived.Test.YtcnkihdjenjdgaaEvXT
namespace Go.Proofs.YtcnkihdjenjdgaaE
open Go
set_option linter.unusedVariables false
set_option linter.unusedSimpArgs false

/-- euphroe/euphroeref01.Same -/
def k23 : Fun := ⟨2, 26, [0, 1, 4, 5, 10, 14, 25], [(.tmp 4)],
  (.seq (.region [
    ⟨(some 4), (.mv (.c (.bool false))), none, []⟩] false)
  (.seq (.seq (.region [
    ⟨(some 6), (.mv (.s 0)), none, []⟩,
    ⟨(some 7), (.len false (.s 6)), none, [0]⟩,
    ⟨(some 8), (.mv (.s 1)), none, []⟩,
    ⟨(some 9), (.len false (.s 8)), none, [2]⟩,
    ⟨(some 10), (.bin .neq (.s 7) (.s 9)), none, [1, 3]⟩] false)
  (.cond (.s 10)
   (.seq (.region [
     ⟨(some 4), (.mv (.c (.bool false))), none, []⟩] false)
   .ret)
   .skip))
  (.seq (.seq (.region [
    ⟨(some 5), (.mv (.c (.int .i64 0))), none, []⟩] false)
  (.block 0
   (.loop ⟨0, [], false, [0, 1, 5], []⟩
    (.seq (.seq (.region [
      ⟨(some 11), (.mv (.s 5)), none, []⟩,
      ⟨(some 12), (.mv (.s 0)), none, []⟩,
      ⟨(some 13), (.len false (.s 12)), none, [1]⟩,
      ⟨(some 14), (.bin .lss (.s 11) (.s 13)), none, [0, 2]⟩] false)
    (.cond (.s 14)
     .skip
     (.pre ⟨0, [], false, [], []⟩ (.exit 0))))
    (.seq (.block 1
     (.seq (.region [
       ⟨(some 17), (.mv (.s 0)), none, []⟩,
       ⟨(some 18), (.mv (.s 5)), none, []⟩,
       ⟨(some 19), (.iad 1 (.s 17) (.s 18)), none, [0, 1]⟩,
       ⟨(some 20), (.ldc (.s 19)), none, [2]⟩,
       ⟨(some 21), (.mv (.s 1)), none, []⟩,
       ⟨(some 22), (.mv (.s 5)), none, []⟩,
       ⟨(some 23), (.iad 1 (.s 21) (.s 22)), none, [4, 5]⟩,
       ⟨(some 24), (.ldc (.s 23)), none, [6]⟩,
       ⟨(some 25), (.bin .neq (.s 20) (.s 24)), none, [3, 7]⟩] true)
     (.cond (.s 25)
      (.seq (.region [
        ⟨(some 4), (.mv (.c (.bool false))), none, []⟩] false)
      .ret)
      .skip)))
    (.region [
      ⟨(some 15), (.mv (.s 5)), none, []⟩,
      ⟨(some 16), (.bin .add (.s 15) (.c (.int .i64 1))), none, [0]⟩,
      ⟨(some 5), (.mv (.s 16)), none, [1, 0, 1]⟩] false))))))
  (.seq (.region [
    ⟨(some 4), (.mv (.c (.bool true))), none, []⟩] false)
  .ret)))), false, (some [(Sh.sl (Sh.int .u8)), (Sh.sl (Sh.int .u8))]), (some Sh.bool), false⟩

/-- euphroe/euphroelaw38.ChansOrder -/
def k71 : Fun := ⟨2, 159, [0, 1, 4, 5, 6, 7, 9, 10, 11, 12, 13, 14, 15, 16, 17, 18, 19, 27, 31, 32, 33, 34, 39, 44, 49, 50, 51, 52, 58, 73, 104], [(.tmp 4)],
  (.seq (.region [
    ⟨(some 4), (.mv (.c (.bool false))), none, []⟩] false)
  (.seq (.seq (.region [
    ⟨(some 20), (.mv (.s 0)), none, []⟩,
    ⟨(some 21), (.len false (.s 20)), none, [0]⟩,
    ⟨(some 22), (.bin .gtr (.s 21) (.c (.int .i64 30))), none, [1]⟩,
    ⟨(some 23), (.mv (.s 22)), none, [2]⟩,
    ⟨(some 24), (.mv (.s 1)), (some (23, false)), [3]⟩,
    ⟨(some 25), (.len false (.s 24)), (some (23, false)), [4, 3]⟩,
    ⟨(some 26), (.bin .gtr (.s 25) (.c (.int .i64 60))), (some (23, false)), [5, 3]⟩,
    ⟨(some 27), (.pick (.s 23) (.c (.bool true)) (.s 26)), none, [3, 6]⟩] false)
  (.cond (.s 27)
   (.seq (.region [
     ⟨(some 28), (.call (.c (.fn 84 [])) []), none, []⟩,
     ⟨(some 4), (.mv (.s 28)), none, [0, 0, 0]⟩] false)
   .ret)
   .skip))
  (.seq (.region [
    ⟨(some 29), (.build (.ints .u8 [0, 0, 0, 0, 0, 0, 0, 0, 0, 0, 0, 0, 0, 0, 0, 0, 0, 0, 0, 0, 0, 0, 0, 0, 0, 0, 0, 0, 0, 0, 0, 0]) []), none, []⟩,
    ⟨(some 30), (.call (.c (.fn 85 [])) [(.s 29)]), none, [0]⟩,
    ⟨(some 5), (.mv (.s 30)), none, [1, 1, 0, 1]⟩] false)
  (.seq (.region [
    ⟨(some 6), (.mv (.c .nils)), none, []⟩,
    ⟨(some 7), (.mv (.c .nils)), none, [0]⟩] false)
  (.seq (.seq (.region [
    ⟨(some 31), (.mv (.s 0)), none, []⟩,
    ⟨(some 32), (.len false (.s 31)), none, [0]⟩,
    ⟨(some 33), (.mv (.c (.int .i64 0))), none, []⟩] false)
  (.block 0
   (.loop ⟨0, [], false, [1, 5, 6, 7, 31, 32, 33], [(6, (.ints .u8 []), 1)]⟩
    (.seq (.region [
      ⟨(some 34), (.bin .lss (.s 33) (.s 32)), none, []⟩] false)
    (.seq (.cond (.s 34)
     .skip
     (.pre ⟨0, [], false, [1, 5, 6, 7], []⟩ (.exit 0)))
    (.seq (.block 1
     (.seq (.region [
       ⟨(some 35), (.iad 1 (.s 31) (.s 33)), none, []⟩,
       ⟨(some 36), (.ldc (.s 35)), none, [0]⟩,
       ⟨(some 9), (.mv (.s 36)), none, [1, 0, 1]⟩] false)
     (.seq (.seq (.region [
       ⟨(some 37), (.mv (.s 9)), none, []⟩,
       ⟨(some 38), (.len false (.s 37)), none, [0]⟩,
       ⟨(some 39), (.bin .gtr (.s 38) (.c (.int .i64 500))), none, [1]⟩] false)
     (.cond (.s 39)
      (.seq (.region [
        ⟨(some 40), (.call (.c (.fn 84 [])) []), none, []⟩,
        ⟨(some 4), (.mv (.s 40)), none, [0, 0, 0]⟩] false)
      .ret)
      .skip))
     (.seq (.seq (.region [
       ⟨(some 41), (.mv (.s 5)), none, []⟩,
       ⟨(some 42), (.mv (.s 9)), none, []⟩,
       ⟨(some 43), (.call (.c (.fn 86 [])) [(.s 41), (.c (.int .i64 1)), (.s 42)]), none, [0, 1]⟩,
       ⟨(some 44), (.bin .neq (.s 43) (.c (.int .i64 0))), none, [2]⟩] false)
     (.cond (.s 44)
      (.seq (.region [
        ⟨(some 4), (.mv (.c (.bool false))), none, []⟩] false)
      .ret)
      .skip))
     (.region [
       ⟨(some 45), (.mv (.s 6)), none, []⟩,
       ⟨(some 46), (.mv (.s 9)), none, []⟩,
       ⟨(some 47), (.app 1 1 (.s 45) (.s 46)), none, [0, 1]⟩,
       ⟨(some 6), (.mv (.s 47)), none, [2, 2, 0, 1, 2]⟩] false)))))
    (.region [
      ⟨(some 48), (.bin .add (.s 33) (.c (.int .i64 1))), none, []⟩,
      ⟨(some 33), (.mv (.s 48)), none, [0]⟩] false)))))))
  (.seq (.region [
    ⟨(some 10), (.mv (.c (.int .i64 0))), none, []⟩] false)
  (.seq (.seq (.region [
    ⟨(some 49), (.mv (.s 1)), none, []⟩,
    ⟨(some 50), (.len false (.s 49)), none, [0]⟩,
    ⟨(some 51), (.mv (.c (.int .i64 0))), none, []⟩] false)
  (.block 2
   (.loop ⟨1, [], false, [5, 6, 7, 10, 49, 50, 51], [(7, (.ints .u8 []), 1)]⟩
    (.seq (.region [
      ⟨(some 52), (.bin .lss (.s 51) (.s 50)), none, []⟩] false)
    (.seq (.cond (.s 52)
     .skip
     (.pre ⟨0, [], false, [5, 6, 7, 10], []⟩ (.exit 2)))
    (.seq (.block 3
     (.seq (.region [
       ⟨(some 53), (.mv (.s 51)), none, []⟩,
       ⟨(some 54), (.iad 1 (.s 49) (.s 51)), none, []⟩,
       ⟨(some 55), (.ldc (.s 54)), none, [1]⟩,
       ⟨(some 11), (.mv (.s 53)), none, [0, 0, 1, 2]⟩,
       ⟨(some 12), (.mv (.s 55)), none, [2, 3, 0, 1, 2, 3]⟩] false)
     (.seq (.seq (.region [
       ⟨(some 56), (.mv (.s 11)), none, []⟩,
       ⟨(some 57), (.bin .rem (.s 56) (.c (.int .i64 4))), none, [0]⟩,
       ⟨(some 58), (.bin .eql (.s 57) (.c (.int .i64 3))), none, [1]⟩] false)
     (.cond (.s 58)
      (.seq (.region [
        ⟨(some 60), (.mv (.s 5)), none, []⟩,
        ⟨(some 61), (.mv (.s 12)), none, []⟩,
        ⟨(some 62), (.cvi .i64 (.s 61)), none, [1]⟩,
        ⟨(some 63), (.call (.c (.fn 87 [])) [(.s 60), (.c (.int .i64 1)), (.s 62)]), none, [0, 2]⟩,
        ⟨(some 59), (.mv (.s 63)), none, [3]⟩,
        ⟨(some 64), (.ext (.s 59) 0), none, [4]⟩,
        ⟨(some 65), (.ext (.s 59) 1), none, [4]⟩,
        ⟨(some 13), (.mv (.s 64)), none, [5, 3, 0, 1, 2, 3, 4, 5]⟩,
        ⟨(some 14), (.mv (.s 65)), none, [6, 7, 0, 1, 2, 3, 4, 5, 6, 7]⟩] false)
      (.seq (.seq (.region [
        ⟨(some 66), (.mv (.s 14)), none, []⟩,
        ⟨(some 67), (.bin .neq (.s 66) (.c (.int .i64 0))), none, [0]⟩,
        ⟨(some 68), (.mv (.s 67)), none, [1]⟩,
        ⟨(some 69), (.mv (.s 13)), (some (68, false)), [2]⟩,
        ⟨(some 70), (.mv (.s 12)), (some (68, false)), [2]⟩,
        ⟨(some 71), (.cvi .i64 (.s 70)), (some (68, false)), [4, 2]⟩,
        ⟨(some 72), (.bin .gtr (.s 69) (.s 71)), (some (68, false)), [3, 5, 2]⟩,
        ⟨(some 73), (.pick (.s 68) (.c (.bool true)) (.s 72)), none, [2, 6]⟩] false)
      (.cond (.s 73)
       (.seq (.region [
         ⟨(some 4), (.mv (.c (.bool false))), none, []⟩] false)
       .ret)
       .skip))
      (.seq (.region [
        ⟨(some 74), (.mv (.s 6)), none, []⟩,
        ⟨(some 75), (.mv (.s 7)), none, []⟩,
        ⟨(some 76), (.len false (.s 75)), none, [1]⟩,
        ⟨(some 77), (.sls 1 (.s 74) none (some (.s 76)) none), none, [0, 2]⟩,
        ⟨(some 78), (.app 1 1 (.c .nils) (.s 77)), none, [3]⟩,
        ⟨(some 79), (.mv (.s 6)), none, []⟩,
        ⟨(some 80), (.mv (.s 7)), none, []⟩,
        ⟨(some 81), (.len false (.s 80)), none, [6]⟩,
        ⟨(some 82), (.mv (.s 13)), none, []⟩,
        ⟨(some 83), (.bin .add (.s 81) (.s 82)), none, [7, 8]⟩,
        ⟨(some 84), (.sls 1 (.s 79) (some (.s 83)) none none), none, [5, 9]⟩,
        ⟨(some 85), (.app 1 1 (.s 78) (.s 84)), none, [4, 10, 4]⟩,
        ⟨(some 6), (.mv (.s 85)), none, [11, 11, 0, 1, 2, 3, 4, 5, 6, 7, 8, 9, 10, 11]⟩] true)
      (.seq (.region [
        ⟨(some 86), (.mv (.s 10)), none, []⟩,
        ⟨(some 87), (.mv (.s 13)), none, []⟩,
        ⟨(some 88), (.bin .add (.s 86) (.s 87)), none, [0, 1]⟩,
        ⟨(some 10), (.mv (.s 88)), none, [2, 0, 1, 2]⟩] false)
      (.pre ⟨0, [], false, [5, 6, 7, 10, 49, 50, 51], []⟩ (.exit 3))))))
      .skip))
     (.seq (.region [
       ⟨(some 90), (.mv (.s 5)), none, []⟩,
       ⟨(some 91), (.mv (.s 12)), none, []⟩,
       ⟨(some 92), (.cvi .i64 (.s 91)), none, [1]⟩,
       ⟨(some 93), (.call (.c (.fn 88 [])) [(.s 90), (.c (.int .i64 1)), (.s 92)]), none, [0, 2]⟩,
       ⟨(some 89), (.mv (.s 93)), none, [3]⟩,
       ⟨(some 94), (.ext (.s 89) 0), none, [4]⟩,
       ⟨(some 95), (.ext (.s 89) 1), none, [4]⟩,
       ⟨(some 15), (.mv (.s 94)), none, [5, 3, 0, 1, 2, 3, 4, 5]⟩,
       ⟨(some 16), (.mv (.s 95)), none, [6, 7, 0, 1, 2, 3, 4, 5, 6, 7]⟩] false)
     (.seq (.seq (.region [
       ⟨(some 96), (.mv (.s 16)), none, []⟩,
       ⟨(some 97), (.bin .neq (.s 96) (.c (.int .i64 0))), none, [0]⟩,
       ⟨(some 98), (.mv (.s 97)), none, [1]⟩,
       ⟨(some 99), (.mv (.s 15)), (some (98, false)), [2]⟩,
       ⟨(some 100), (.len false (.s 99)), (some (98, false)), [3, 2]⟩,
       ⟨(some 101), (.mv (.s 12)), (some (98, false)), [2]⟩,
       ⟨(some 102), (.cvi .i64 (.s 101)), (some (98, false)), [5, 2]⟩,
       ⟨(some 103), (.bin .gtr (.s 100) (.s 102)), (some (98, false)), [4, 6, 2]⟩,
       ⟨(some 104), (.pick (.s 98) (.c (.bool true)) (.s 103)), none, [2, 7]⟩] false)
     (.cond (.s 104)
      (.seq (.region [
        ⟨(some 4), (.mv (.c (.bool false))), none, []⟩] false)
      .ret)
      .skip))
     (.region [
       ⟨(some 105), (.mv (.s 7)), none, []⟩,
       ⟨(some 106), (.mv (.s 15)), none, []⟩,
       ⟨(some 107), (.app 1 1 (.s 105) (.s 106)), none, [0, 1]⟩,
       ⟨(some 7), (.mv (.s 107)), none, [2, 2, 0, 1, 2]⟩] false))))))
    (.region [
      ⟨(some 108), (.bin .add (.s 51) (.c (.int .i64 1))), none, []⟩,
      ⟨(some 51), (.mv (.s 108)), none, [0]⟩] false)))))))
  (.seq (.region [
    ⟨(some 110), (.mv (.s 5)), none, []⟩,
    ⟨(some 111), (.call (.c (.fn 89 [])) [(.s 110), (.c (.int .i64 1))]), none, [0]⟩,
    ⟨(some 109), (.mv (.s 111)), none, [1]⟩,
    ⟨(some 112), (.ext (.s 109) 0), none, [2]⟩,
    ⟨(some 113), (.ext (.s 109) 1), none, [2]⟩,
    ⟨(some 114), (.ext (.s 109) 2), none, [2]⟩,
    ⟨(some 17), (.mv (.s 112)), none, [3, 1, 0, 1, 2, 3]⟩,
    ⟨(some 18), (.mv (.s 113)), none, [4, 6, 0, 1, 2, 3, 4, 6]⟩,
    ⟨(some 19), (.mv (.s 114)), none, [5, 7, 0, 1, 2, 3, 4, 5, 6, 7]⟩] false)
  (.seq (.region [
    ⟨(some 115), (.mv (.s 7)), none, []⟩,
    ⟨(some 116), (.mv (.s 6)), none, []⟩,
    ⟨(some 117), (.mv (.s 7)), none, []⟩,
    ⟨(some 118), (.len false (.s 117)), none, [2]⟩,
    ⟨(some 119), (.sls 1 (.s 116) none (some (.s 118)) none), none, [1, 3]⟩,
    ⟨(some 120), (.call (.c (.fn 23 [])) [(.s 115), (.s 119)]), none, [0, 4]⟩,
    ⟨(some 121), (.mv (.s 120)), none, [5, 5]⟩,
    ⟨(some 122), (.mv (.s 5)), (some (121, true)), [6]⟩,
    ⟨(some 123), (.call (.c (.fn 90 [])) [(.s 122), (.c (.int .i64 1))]), (some (121, true)), [7, 6, 6]⟩,
    ⟨(some 124), (.mv (.s 6)), (some (121, true)), [6]⟩,
    ⟨(some 125), (.mv (.s 7)), (some (121, true)), [6]⟩,
    ⟨(some 126), (.len false (.s 125)), (some (121, true)), [10, 6]⟩,
    ⟨(some 127), (.sls 1 (.s 124) (some (.s 126)) none none), (some (121, true)), [9, 11, 6]⟩,
    ⟨(some 128), (.call (.c (.fn 23 [])) [(.s 123), (.s 127)]), (some (121, true)), [8, 12, 8, 6]⟩,
    ⟨(some 129), (.pick (.s 121) (.s 128) (.c (.bool false))), none, [6, 13]⟩,
    ⟨(some 130), (.mv (.s 129)), none, [14, 13]⟩,
    ⟨(some 131), (.mv (.s 17)), (some (130, true)), [15]⟩,
    ⟨(some 132), (.mv (.s 18)), (some (130, true)), [15]⟩,
    ⟨(some 133), (.mv (.s 19)), (some (130, true)), [15]⟩,
    ⟨(some 134), (.bin .add (.s 132) (.s 133)), (some (130, true)), [17, 18, 15]⟩,
    ⟨(some 135), (.mv (.s 5)), (some (130, true)), [15]⟩,
    ⟨(some 136), (.call (.c (.fn 91 [])) [(.s 135), (.c (.int .i64 1))]), (some (130, true)), [20, 15, 15]⟩,
    ⟨(some 137), (.bin .add (.s 134) (.s 136)), (some (130, true)), [19, 21, 15]⟩,
    ⟨(some 138), (.bin .eql (.s 131) (.s 137)), (some (130, true)), [16, 22, 15]⟩,
    ⟨(some 139), (.pick (.s 130) (.s 138) (.c (.bool false))), none, [15, 23]⟩,
    ⟨(some 140), (.mv (.s 139)), none, [24, 21]⟩,
    ⟨(some 141), (.mv (.s 18)), (some (140, true)), [25]⟩,
    ⟨(some 142), (.mv (.s 7)), (some (140, true)), [25]⟩,
    ⟨(some 143), (.len false (.s 142)), (some (140, true)), [27, 25]⟩,
    ⟨(some 144), (.bin .eql (.s 141) (.s 143)), (some (140, true)), [26, 28, 25]⟩,
    ⟨(some 145), (.pick (.s 140) (.s 144) (.c (.bool false))), none, [25, 29]⟩,
    ⟨(some 146), (.mv (.s 145)), none, [30, 25]⟩,
    ⟨(some 147), (.mv (.s 19)), (some (146, true)), [31]⟩,
    ⟨(some 148), (.mv (.s 10)), (some (146, true)), [31]⟩,
    ⟨(some 149), (.bin .eql (.s 147) (.s 148)), (some (146, true)), [32, 33, 31]⟩,
    ⟨(some 150), (.pick (.s 146) (.s 149) (.c (.bool false))), none, [31, 34]⟩,
    ⟨(some 151), (.mv (.s 150)), none, [35, 31]⟩,
    ⟨(some 152), (.mv (.s 5)), (some (151, true)), [36]⟩,
    ⟨(some 153), (.call (.c (.fn 91 [])) [(.s 152), (.c (.int .i64 0))]), (some (151, true)), [37, 36, 36]⟩,
    ⟨(some 154), (.bin .eql (.s 153) (.c (.int .i64 0))), (some (151, true)), [38, 36]⟩,
    ⟨(some 155), (.pick (.s 151) (.s 154) (.c (.bool false))), none, [36, 39]⟩,
    ⟨(some 156), (.mv (.s 155)), none, [40, 38]⟩,
    ⟨(some 157), (.call (.c (.fn 84 [])) []), (some (156, true)), [41, 41]⟩,
    ⟨(some 158), (.pick (.s 156) (.s 157) (.c (.bool false))), none, [41, 42]⟩,
    ⟨(some 4), (.mv (.s 158)), none, [43, 42, 0, 1, 2, 3, 4, 5, 6, 7, 8, 9, 10, 11, 12, 13, 14, 15, 16, 17, 18, 19, 20, 21, 22, 23, 24, 25, 26, 27, 28, 29, 30, 31, 32, 33, 34, 35, 36, 37, 38, 39, 40, 41, 42, 43]⟩] true)
  .ret))))))))), false, (some [(Sh.sl (Sh.sl (Sh.int .u8))), (Sh.sl (Sh.int .u8))]), (some Sh.bool), false⟩

/-- euphroe/euphroelaw38.alive -/
def k84 : Fun := ⟨0, 46, [0, 1, 2, 3, 14], [(.tmp 0)],
  (.seq (.region [
    ⟨(some 0), (.mv (.c (.bool false))), none, []⟩] false)
  (.seq (.region [
    ⟨(some 4), (.build (.ints .u8 [0, 0, 0, 0, 0, 0, 0, 0, 0, 0, 0, 0, 0, 0, 0, 0, 0, 0, 0, 0, 0, 0, 0, 0, 0, 0, 0, 0, 0, 0, 0, 0]) [(0, 1, (.c (.int .u8 7)))]), none, []⟩,
    ⟨(some 5), (.call (.c (.fn 85 [])) [(.s 4)]), none, [0]⟩,
    ⟨(some 1), (.mv (.s 5)), none, [1, 1, 0, 1]⟩] false)
  (.seq (.seq (.region [
    ⟨(some 6), (.mv (.s 1)), none, []⟩,
    ⟨(some 7), (.eqn .p false (.s 6) (.c .nilp)), none, [0]⟩,
    ⟨(some 8), (.mv (.s 7)), none, [1]⟩,
    ⟨(some 9), (.mv (.s 1)), (some (8, false)), [2]⟩,
    ⟨(some 10), (.bsl 3 1 (.ints .u8 [0, 0, 0]) [(0, 1, (.c (.int .u8 97))), (1, 1, (.c (.int .u8 98))), (2, 1, (.c (.int .u8 99)))]), (some (8, false)), [2]⟩,
    ⟨(some 11), (.cvs (.s 10)), (some (8, false)), [4, 2]⟩,
    ⟨(some 12), (.call (.c (.fn 86 [])) [(.s 9), (.c (.int .i64 0)), (.s 11)]), (some (8, false)), [3, 5, 2, 2]⟩,
    ⟨(some 13), (.bin .neq (.s 12) (.c (.int .i64 0))), (some (8, false)), [6, 2]⟩,
    ⟨(some 14), (.pick (.s 8) (.c (.bool true)) (.s 13)), none, [2, 7]⟩] false)
  (.cond (.s 14)
   (.seq (.region [
     ⟨(some 0), (.mv (.c (.bool false))), none, []⟩] false)
   .ret)
   .skip))
  (.seq (.region [
    ⟨(some 16), (.mv (.s 1)), none, []⟩,
    ⟨(some 17), (.call (.c (.fn 88 [])) [(.s 16), (.c (.int .i64 0)), (.c (.int .i64 2))]), none, [0]⟩,
    ⟨(some 15), (.mv (.s 17)), none, [1]⟩,
    ⟨(some 18), (.ext (.s 15) 0), none, [2]⟩,
    ⟨(some 19), (.ext (.s 15) 1), none, [2]⟩,
    ⟨(some 2), (.mv (.s 18)), none, [3, 1, 0, 1, 2, 3]⟩,
    ⟨(some 3), (.mv (.s 19)), none, [4, 5, 0, 1, 2, 3, 4, 5]⟩] false)
  (.seq (.region [
    ⟨(some 20), (.mv (.s 2)), none, []⟩,
    ⟨(some 21), (.b2s (.s 20)), none, [0]⟩,
    ⟨(some 22), (.bin .eql (.s 21) (.c (.str [97, 98]))), none, [1]⟩,
    ⟨(some 23), (.mv (.s 22)), none, [2]⟩,
    ⟨(some 24), (.mv (.s 3)), (some (23, true)), [3]⟩,
    ⟨(some 25), (.bin .eql (.s 24) (.c (.int .i64 0))), (some (23, true)), [4, 3]⟩,
    ⟨(some 26), (.pick (.s 23) (.s 25) (.c (.bool false))), none, [3, 5]⟩,
    ⟨(some 27), (.mv (.s 26)), none, [6, 3]⟩,
    ⟨(some 28), (.mv (.s 1)), (some (27, true)), [7]⟩,
    ⟨(some 29), (.call (.c (.fn 91 [])) [(.s 28), (.c (.int .i64 0))]), (some (27, true)), [8, 7, 7]⟩,
    ⟨(some 30), (.bin .eql (.s 29) (.c (.int .i64 1))), (some (27, true)), [9, 7]⟩,
    ⟨(some 31), (.pick (.s 27) (.s 30) (.c (.bool false))), none, [7, 10]⟩,
    ⟨(some 32), (.mv (.s 31)), none, [11, 9]⟩,
    ⟨(some 33), (.mv (.s 1)), (some (32, true)), [12]⟩,
    ⟨(some 34), (.call (.c (.fn 99 [])) [(.s 33)]), (some (32, true)), [13, 12, 12]⟩,
    ⟨(some 35), (.build (.ints .u8 [0, 0, 0, 0, 0, 0, 0, 0, 0, 0, 0, 0, 0, 0, 0, 0, 0, 0, 0, 0, 0, 0, 0, 0, 0, 0, 0, 0, 0, 0, 0, 0]) [(0, 1, (.c (.int .u8 7)))]), (some (32, true)), [12]⟩,
    ⟨(some 36), (.eqa 32 false (.s 34) (.s 35)), (some (32, true)), [14, 15, 12]⟩,
    ⟨(some 37), (.pick (.s 32) (.s 36) (.c (.bool false))), none, [12, 16]⟩,
    ⟨(some 38), (.mv (.s 37)), none, [17, 14]⟩,
    ⟨(some 39), (.mv (.s 1)), (some (38, true)), [18]⟩,
    ⟨(some 40), (.call (.c (.fn 98 [])) [(.s 39)]), (some (38, true)), [19, 18, 18]⟩,
    ⟨(some 41), (.pick (.s 38) (.s 40) (.c (.bool false))), none, [18, 20]⟩,
    ⟨(some 42), (.mv (.s 41)), none, [21, 20]⟩,
    ⟨(some 43), (.pick (.s 42) (.c (.bool true)) (.c (.bool false))), none, [22]⟩,
    ⟨(some 44), (.mv (.s 43)), none, [23, 22]⟩,
    ⟨(some 45), (.pick (.s 44) (.c (.bool true)) (.c (.bool false))), none, [24]⟩,
    ⟨(some 0), (.mv (.s 45)), none, [25, 24, 0, 1, 2, 3, 4, 5, 6, 7, 8, 9, 10, 11, 12, 13, 14, 15, 16, 17, 18, 19, 20, 21, 22, 23, 24, 25]⟩] false)
  .ret))))), false, (some []), (some Sh.bool), false⟩

/-- euphroe/chans.New -/
def k85 : Fun := ⟨1, 6, [0, 1, 2], [(.tmp 2)],
  (.seq (.region [
    ⟨(some 1), (.box (.s 0)), none, []⟩,
    ⟨(some 2), (.mv (.c .nilp)), none, []⟩] false)
  (.seq (.region [
    ⟨(some 3), (.lda 32 (some .u8) (.s 1)), none, []⟩,
    ⟨(some 4), (.build (.vals [(.bool false), (.int .u8 0), (.int .u8 0), (.int .u8 0), (.int .u8 0), (.int .u8 0), (.int .u8 0), (.int .u8 0), (.int .u8 0), (.int .u8 0), (.int .u8 0), (.int .u8 0), (.int .u8 0), (.int .u8 0), (.int .u8 0), (.int .u8 0), (.int .u8 0), (.int .u8 0), (.int .u8 0), (.int .u8 0), (.int .u8 0), (.int .u8 0), (.int .u8 0), (.int .u8 0), (.int .u8 0), (.int .u8 0), (.int .u8 0), (.int .u8 0), (.int .u8 0), (.int .u8 0), (.int .u8 0), (.int .u8 0), (.int .u8 0), .nils, (.int .i64 0), (.int .i64 0), (.int .i64 0), .nils, (.int .i64 0), (.int .i64 0), (.int .i64 0), (.bool false)]) [(0, 1, (.c (.bool true))), (1, 32, (.s 3))]), none, [0]⟩,
    ⟨(some 5), (.box (.s 4)), none, [1]⟩,
    ⟨(some 2), (.mv (.s 5)), none, [2, 0, 1, 2]⟩] false)
  (.pre ⟨0, [(2, (Sh.st (Sh.pr Sh.bool (Sh.pr (Sh.int .u8) (Sh.pr (Sh.int .u8) (Sh.pr (Sh.int .u8) (Sh.pr (Sh.int .u8) (Sh.pr (Sh.int .u8) (Sh.pr (Sh.int .u8) (Sh.pr (Sh.int .u8) (Sh.pr (Sh.int .u8) (Sh.pr (Sh.int .u8) (Sh.pr (Sh.int .u8) (Sh.pr (Sh.int .u8) (Sh.pr (Sh.int .u8) (Sh.pr (Sh.int .u8) (Sh.pr (Sh.int .u8) (Sh.pr (Sh.int .u8) (Sh.pr (Sh.int .u8) (Sh.pr (Sh.int .u8) (Sh.pr (Sh.int .u8) (Sh.pr (Sh.int .u8) (Sh.pr (Sh.int .u8) (Sh.pr (Sh.int .u8) (Sh.pr (Sh.int .u8) (Sh.pr (Sh.int .u8) (Sh.pr (Sh.int .u8) (Sh.pr (Sh.int .u8) (Sh.pr (Sh.int .u8) (Sh.pr (Sh.int .u8) (Sh.pr (Sh.int .u8) (Sh.pr (Sh.int .u8) (Sh.pr (Sh.int .u8) (Sh.pr (Sh.int .u8) (Sh.pr (Sh.int .u8) (Sh.pr (Sh.sl (Sh.int .u8)) (Sh.pr (Sh.int .i64) (Sh.pr (Sh.int .i64) (Sh.pr (Sh.int .i64) (Sh.pr (Sh.sl (Sh.int .u8)) (Sh.pr (Sh.int .i64) (Sh.pr (Sh.int .i64) (Sh.pr (Sh.int .i64) Sh.bool)))))))))))))))))))))))))))))))))))))))))))], true, [], []⟩ .ret))), false, none, none, false⟩

/-- (*euphroe/chans.Chan).Put -/
def k86 : Fun := ⟨3, 48, [0, 1, 2, 6, 7, 8, 9, 14, 22], [(.tmp 6)],
  (.seq (.region [
    ⟨(some 6), (.mv (.c (.int .i64 0))), none, []⟩] false)
  (.seq (.seq (.region [
    ⟨(some 10), (.mv (.s 0)), none, []⟩,
    ⟨(some 11), (.mv (.s 1)), none, []⟩,
    ⟨(some 12), (.call (.c (.fn 106 [])) [(.s 10), (.s 11), (.c (.int .i64 0))]), none, [0, 1]⟩,
    ⟨(some 7), (.mv (.s 12)), none, [2, 2, 0, 1, 2]⟩] false)
  (.seq (.region [
    ⟨(some 13), (.mv (.s 7)), none, []⟩,
    ⟨(some 14), (.bin .neq (.s 13) (.c (.int .i64 0))), none, [0]⟩] false)
  (.cond (.s 14)
   (.seq (.region [
     ⟨(some 15), (.mv (.s 7)), none, []⟩,
     ⟨(some 6), (.mv (.s 15)), none, [0, 0]⟩] false)
   (.pre ⟨0, [(0, (Sh.st (Sh.pr Sh.bool (Sh.pr (Sh.int .u8) (Sh.pr (Sh.int .u8) (Sh.pr (Sh.int .u8) (Sh.pr (Sh.int .u8) (Sh.pr (Sh.int .u8) (Sh.pr (Sh.int .u8) (Sh.pr (Sh.int .u8) (Sh.pr (Sh.int .u8) (Sh.pr (Sh.int .u8) (Sh.pr (Sh.int .u8) (Sh.pr (Sh.int .u8) (Sh.pr (Sh.int .u8) (Sh.pr (Sh.int .u8) (Sh.pr (Sh.int .u8) (Sh.pr (Sh.int .u8) (Sh.pr (Sh.int .u8) (Sh.pr (Sh.int .u8) (Sh.pr (Sh.int .u8) (Sh.pr (Sh.int .u8) (Sh.pr (Sh.int .u8) (Sh.pr (Sh.int .u8) (Sh.pr (Sh.int .u8) (Sh.pr (Sh.int .u8) (Sh.pr (Sh.int .u8) (Sh.pr (Sh.int .u8) (Sh.pr (Sh.int .u8) (Sh.pr (Sh.int .u8) (Sh.pr (Sh.int .u8) (Sh.pr (Sh.int .u8) (Sh.pr (Sh.int .u8) (Sh.pr (Sh.int .u8) (Sh.pr (Sh.int .u8) (Sh.pr (Sh.sl (Sh.int .u8)) (Sh.pr (Sh.int .i64) (Sh.pr (Sh.int .i64) (Sh.pr (Sh.int .i64) (Sh.pr (Sh.sl (Sh.int .u8)) (Sh.pr (Sh.int .i64) (Sh.pr (Sh.int .i64) (Sh.pr (Sh.int .i64) Sh.bool)))))))))))))))))))))))))))))))))))))))))))], true, [], []⟩ .ret))
   .skip)))
  (.seq (.seq (.region [
    ⟨(some 16), (.mv (.s 0)), none, []⟩,
    ⟨(some 17), (.mv (.s 1)), none, []⟩,
    ⟨(some 18), (.mv (.s 2)), none, []⟩,
    ⟨(some 19), (.len false (.s 18)), none, [2]⟩,
    ⟨(some 20), (.call (.c (.fn 107 [])) [(.s 16), (.s 17), (.s 19)]), none, [0, 1, 3]⟩,
    ⟨(some 8), (.mv (.s 20)), none, [4, 4, 0, 1, 2, 3, 4]⟩] false)
  (.seq (.region [
    ⟨(some 21), (.mv (.s 8)), none, []⟩,
    ⟨(some 22), (.bin .neq (.s 21) (.c (.int .i64 0))), none, [0]⟩] false)
  (.cond (.s 22)
   (.seq (.region [
     ⟨(some 23), (.mv (.s 8)), none, []⟩,
     ⟨(some 6), (.mv (.s 23)), none, [0, 0]⟩] false)
   (.pre ⟨0, [(0, (Sh.st (Sh.pr Sh.bool (Sh.pr (Sh.int .u8) (Sh.pr (Sh.int .u8) (Sh.pr (Sh.int .u8) (Sh.pr (Sh.int .u8) (Sh.pr (Sh.int .u8) (Sh.pr (Sh.int .u8) (Sh.pr (Sh.int .u8) (Sh.pr (Sh.int .u8) (Sh.pr (Sh.int .u8) (Sh.pr (Sh.int .u8) (Sh.pr (Sh.int .u8) (Sh.pr (Sh.int .u8) (Sh.pr (Sh.int .u8) (Sh.pr (Sh.int .u8) (Sh.pr (Sh.int .u8) (Sh.pr (Sh.int .u8) (Sh.pr (Sh.int .u8) (Sh.pr (Sh.int .u8) (Sh.pr (Sh.int .u8) (Sh.pr (Sh.int .u8) (Sh.pr (Sh.int .u8) (Sh.pr (Sh.int .u8) (Sh.pr (Sh.int .u8) (Sh.pr (Sh.int .u8) (Sh.pr (Sh.int .u8) (Sh.pr (Sh.int .u8) (Sh.pr (Sh.int .u8) (Sh.pr (Sh.int .u8) (Sh.pr (Sh.int .u8) (Sh.pr (Sh.int .u8) (Sh.pr (Sh.int .u8) (Sh.pr (Sh.int .u8) (Sh.pr (Sh.sl (Sh.int .u8)) (Sh.pr (Sh.int .i64) (Sh.pr (Sh.int .i64) (Sh.pr (Sh.int .i64) (Sh.pr (Sh.sl (Sh.int .u8)) (Sh.pr (Sh.int .i64) (Sh.pr (Sh.int .i64) (Sh.pr (Sh.int .i64) Sh.bool)))))))))))))))))))))))))))))))))))))))))))], true, [], []⟩ .ret))
   .skip)))
  (.seq (.region [
    ⟨(some 24), (.mv (.s 0)), none, []⟩,
    ⟨(some 25), (.mv (.s 1)), none, []⟩,
    ⟨(some 26), (.nilc (.s 24)), none, [0]⟩,
    ⟨(some 27), (.fad 33 (.s 26)), none, [2]⟩,
    ⟨(some 28), (.iaa 2 4 (.s 27) (.s 25)), none, [3, 1]⟩,
    ⟨(some 9), (.mv (.s 28)), none, [4, 0, 1, 2, 3, 4]⟩] false)
  (.seq (.region [
    ⟨(some 29), (.mv (.s 9)), none, []⟩,
    ⟨(some 30), (.mv (.s 9)), none, []⟩,
    ⟨(some 31), (.nilc (.s 30)), none, [1]⟩,
    ⟨(some 32), (.fad 0 (.s 31)), none, [2]⟩,
    ⟨(some 33), (.ldc (.s 32)), none, [3]⟩,
    ⟨(some 34), (.call (.c (.fn 108 [])) [(.s 33)]), none, [4]⟩,
    ⟨(some 35), (.mv (.s 2)), none, []⟩,
    ⟨(some 36), (.app 1 1 (.s 34) (.s 35)), none, [5, 6, 5]⟩,
    ⟨(some 37), (.nilc (.s 29)), none, [0, 0, 1, 2, 3, 4, 5, 6, 7]⟩,
    ⟨(some 38), (.fad 0 (.s 37)), none, [8, 0, 1, 2, 3, 4, 5, 6, 7]⟩,
    ⟨none, (.stc 1 (.s 38) (.s 36)), none, [9, 7, 7, 0, 1, 2, 3, 4, 5, 6, 7]⟩] false)
  (.seq (.region [
    ⟨(some 39), (.mv (.s 9)), none, []⟩,
    ⟨(some 40), (.nilc (.s 39)), none, [0]⟩,
    ⟨(some 41), (.fad 1 (.s 40)), none, [1]⟩,
    ⟨(some 42), (.ldc (.s 41)), none, [2]⟩,
    ⟨(some 43), (.mv (.s 2)), none, []⟩,
    ⟨(some 44), (.len false (.s 43)), none, [4]⟩,
    ⟨(some 45), (.bin .add (.s 42) (.s 44)), none, [3, 5]⟩,
    ⟨(some 46), (.nilc (.s 39)), none, [0, 0, 1, 2, 3, 4, 5, 6]⟩,
    ⟨(some 47), (.fad 1 (.s 46)), none, [7, 0, 1, 2, 3, 4, 5, 6]⟩,
    ⟨none, (.stc 1 (.s 47) (.s 45)), none, [8, 6, 0, 1, 2, 3, 4, 5, 6]⟩] false)
  (.seq (.region [
    ⟨(some 6), (.mv (.c (.int .i64 0))), none, []⟩] false)
  (.pre ⟨0, [(0, (Sh.st (Sh.pr Sh.bool (Sh.pr (Sh.int .u8) (Sh.pr (Sh.int .u8) (Sh.pr (Sh.int .u8) (Sh.pr (Sh.int .u8) (Sh.pr (Sh.int .u8) (Sh.pr (Sh.int .u8) (Sh.pr (Sh.int .u8) (Sh.pr (Sh.int .u8) (Sh.pr (Sh.int .u8) (Sh.pr (Sh.int .u8) (Sh.pr (Sh.int .u8) (Sh.pr (Sh.int .u8) (Sh.pr (Sh.int .u8) (Sh.pr (Sh.int .u8) (Sh.pr (Sh.int .u8) (Sh.pr (Sh.int .u8) (Sh.pr (Sh.int .u8) (Sh.pr (Sh.int .u8) (Sh.pr (Sh.int .u8) (Sh.pr (Sh.int .u8) (Sh.pr (Sh.int .u8) (Sh.pr (Sh.int .u8) (Sh.pr (Sh.int .u8) (Sh.pr (Sh.int .u8) (Sh.pr (Sh.int .u8) (Sh.pr (Sh.int .u8) (Sh.pr (Sh.int .u8) (Sh.pr (Sh.int .u8) (Sh.pr (Sh.int .u8) (Sh.pr (Sh.int .u8) (Sh.pr (Sh.int .u8) (Sh.pr (Sh.int .u8) (Sh.pr (Sh.sl (Sh.int .u8)) (Sh.pr (Sh.int .i64) (Sh.pr (Sh.int .i64) (Sh.pr (Sh.int .i64) (Sh.pr (Sh.sl (Sh.int .u8)) (Sh.pr (Sh.int .i64) (Sh.pr (Sh.int .i64) (Sh.pr (Sh.int .i64) Sh.bool)))))))))))))))))))))))))))))))))))))))))))], true, [], []⟩ .ret)))))))), false, none, none, false⟩

/-- (*euphroe/chans.Chan).Lose -/
def k87 : Fun := ⟨3, 39, [0, 1, 2, 6, 7, 8, 9, 15], [(.tmp 6), (.tmp 7)],
  (.seq (.region [
    ⟨(some 6), (.mv (.c (.int .i64 0))), none, []⟩,
    ⟨(some 7), (.mv (.c (.int .i64 0))), none, [0]⟩] false)
  (.seq (.seq (.region [
    ⟨(some 10), (.mv (.s 0)), none, []⟩,
    ⟨(some 11), (.mv (.s 1)), none, []⟩,
    ⟨(some 12), (.mv (.s 2)), none, []⟩,
    ⟨(some 13), (.call (.c (.fn 106 [])) [(.s 10), (.s 11), (.s 12)]), none, [0, 1, 2]⟩,
    ⟨(some 8), (.mv (.s 13)), none, [3, 3, 0, 1, 2, 3]⟩] false)
  (.seq (.region [
    ⟨(some 14), (.mv (.s 8)), none, []⟩,
    ⟨(some 15), (.bin .neq (.s 14) (.c (.int .i64 0))), none, [0]⟩] false)
  (.cond (.s 15)
   (.seq (.region [
     ⟨(some 16), (.mv (.s 8)), none, []⟩,
     ⟨(some 6), (.mv (.c (.int .i64 0))), none, []⟩,
     ⟨(some 7), (.mv (.s 16)), none, [0, 1, 0, 1]⟩] false)
   .ret)
   .skip)))
  (.seq (.region [
    ⟨(some 17), (.mv (.s 0)), none, []⟩,
    ⟨(some 18), (.mv (.s 1)), none, []⟩,
    ⟨(some 19), (.nilc (.s 17)), none, [0]⟩,
    ⟨(some 20), (.fad 33 (.s 19)), none, [2]⟩,
    ⟨(some 21), (.iaa 2 4 (.s 20) (.s 18)), none, [3, 1]⟩,
    ⟨(some 22), (.mv (.s 2)), none, []⟩,
    ⟨(some 23), (.call (.c (.fn 109 [])) [(.s 21), (.s 22)]), none, [4, 5]⟩,
    ⟨(some 24), (.len false (.s 23)), none, [6]⟩,
    ⟨(some 9), (.mv (.s 24)), none, [7, 6, 0, 1, 2, 3, 4, 5, 6, 7]⟩] false)
  (.seq (.region [
    ⟨(some 25), (.mv (.s 0)), none, []⟩,
    ⟨(some 26), (.mv (.s 1)), none, []⟩,
    ⟨(some 27), (.nilc (.s 25)), none, [0]⟩,
    ⟨(some 28), (.fad 33 (.s 27)), none, [2]⟩,
    ⟨(some 29), (.iaa 2 4 (.s 28) (.s 26)), none, [3, 1]⟩,
    ⟨(some 30), (.fad 3 (.s 29)), none, [4]⟩,
    ⟨(some 31), (.ldc (.s 30)), none, [5]⟩,
    ⟨(some 32), (.mv (.s 9)), none, []⟩,
    ⟨(some 33), (.bin .add (.s 31) (.s 32)), none, [6, 7]⟩,
    ⟨(some 34), (.nilc (.s 25)), none, [0]⟩,
    ⟨(some 35), (.fad 33 (.s 34)), none, [9]⟩,
    ⟨(some 36), (.iaa 2 4 (.s 35) (.s 26)), none, [10, 1, 0, 1, 2, 3, 4, 5, 6, 7, 8]⟩,
    ⟨(some 37), (.fad 3 (.s 36)), none, [11, 0, 1, 2, 3, 4, 5, 6, 7, 8]⟩,
    ⟨none, (.stc 1 (.s 37) (.s 33)), none, [12, 8, 0, 1, 2, 3, 4, 5, 6, 7, 8]⟩] true)
  (.seq (.region [
    ⟨(some 38), (.mv (.s 9)), none, []⟩,
    ⟨(some 6), (.mv (.s 38)), none, [0, 0]⟩,
    ⟨(some 7), (.mv (.c (.int .i64 0))), none, [1, 0, 1]⟩] false)
  .ret))))), false, none, none, false⟩

/-- (*euphroe/chans.Chan).Take -/
def k88 : Fun := ⟨3, 39, [0, 1, 2, 6, 7, 8, 9, 15], [(.tmp 6), (.tmp 7)],
  (.seq (.region [
    ⟨(some 6), (.mv (.c .nils)), none, []⟩,
    ⟨(some 7), (.mv (.c (.int .i64 0))), none, [0]⟩] false)
  (.seq (.seq (.region [
    ⟨(some 10), (.mv (.s 0)), none, []⟩,
    ⟨(some 11), (.mv (.s 1)), none, []⟩,
    ⟨(some 12), (.mv (.s 2)), none, []⟩,
    ⟨(some 13), (.call (.c (.fn 106 [])) [(.s 10), (.s 11), (.s 12)]), none, [0, 1, 2]⟩,
    ⟨(some 8), (.mv (.s 13)), none, [3, 3, 0, 1, 2, 3]⟩] false)
  (.seq (.region [
    ⟨(some 14), (.mv (.s 8)), none, []⟩,
    ⟨(some 15), (.bin .neq (.s 14) (.c (.int .i64 0))), none, [0]⟩] false)
  (.cond (.s 15)
   (.seq (.region [
     ⟨(some 16), (.mv (.s 8)), none, []⟩,
     ⟨(some 6), (.mv (.c .nils)), none, []⟩,
     ⟨(some 7), (.mv (.s 16)), none, [0, 1, 0, 1]⟩] false)
   (.pre ⟨0, [(6, (Sh.sl (Sh.int .u8)))], true, [], []⟩ .ret))
   .skip)))
  (.seq (.region [
    ⟨(some 17), (.mv (.s 0)), none, []⟩,
    ⟨(some 18), (.mv (.s 1)), none, []⟩,
    ⟨(some 19), (.nilc (.s 17)), none, [0]⟩,
    ⟨(some 20), (.fad 33 (.s 19)), none, [2]⟩,
    ⟨(some 21), (.iaa 2 4 (.s 20) (.s 18)), none, [3, 1]⟩,
    ⟨(some 22), (.mv (.s 2)), none, []⟩,
    ⟨(some 23), (.call (.c (.fn 109 [])) [(.s 21), (.s 22)]), none, [4, 5]⟩,
    ⟨(some 9), (.mv (.s 23)), none, [6, 6, 0, 1, 2, 3, 4, 5, 6]⟩] false)
  (.seq (.region [
    ⟨(some 24), (.mv (.s 0)), none, []⟩,
    ⟨(some 25), (.mv (.s 1)), none, []⟩,
    ⟨(some 26), (.nilc (.s 24)), none, [0]⟩,
    ⟨(some 27), (.fad 33 (.s 26)), none, [2]⟩,
    ⟨(some 28), (.iaa 2 4 (.s 27) (.s 25)), none, [3, 1]⟩,
    ⟨(some 29), (.fad 2 (.s 28)), none, [4]⟩,
    ⟨(some 30), (.ldc (.s 29)), none, [5]⟩,
    ⟨(some 31), (.mv (.s 9)), none, []⟩,
    ⟨(some 32), (.len false (.s 31)), none, [7]⟩,
    ⟨(some 33), (.bin .add (.s 30) (.s 32)), none, [6, 8]⟩,
    ⟨(some 34), (.nilc (.s 24)), none, [0]⟩,
    ⟨(some 35), (.fad 33 (.s 34)), none, [10]⟩,
    ⟨(some 36), (.iaa 2 4 (.s 35) (.s 25)), none, [11, 1, 0, 1, 2, 3, 4, 5, 6, 7, 8, 9]⟩,
    ⟨(some 37), (.fad 2 (.s 36)), none, [12, 0, 1, 2, 3, 4, 5, 6, 7, 8, 9]⟩,
    ⟨none, (.stc 1 (.s 37) (.s 33)), none, [13, 9, 0, 1, 2, 3, 4, 5, 6, 7, 8, 9]⟩] true)
  (.seq (.region [
    ⟨(some 38), (.mv (.s 9)), none, []⟩,
    ⟨(some 6), (.mv (.s 38)), none, [0, 0]⟩,
    ⟨(some 7), (.mv (.c (.int .i64 0))), none, [1, 0, 1]⟩] false)
  (.pre ⟨0, [(6, (Sh.sl (Sh.int .u8)))], true, [], []⟩ .ret)))))), false, none, none, false⟩

/-- (*euphroe/chans.Chan).Counts -/
def k89 : Fun := ⟨2, 24, [0, 1, 4, 5, 6, 7, 11], [(.tmp 4), (.tmp 5), (.tmp 6)],
  (.seq (.region [
    ⟨(some 4), (.mv (.c (.int .i64 0))), none, []⟩,
    ⟨(some 5), (.mv (.c (.int .i64 0))), none, [0]⟩,
    ⟨(some 6), (.mv (.c (.int .i64 0))), none, [1]⟩] false)
  (.seq (.seq (.region [
    ⟨(some 8), (.mv (.s 0)), none, []⟩,
    ⟨(some 9), (.mv (.s 1)), none, []⟩,
    ⟨(some 10), (.call (.c (.fn 106 [])) [(.s 8), (.s 9), (.c (.int .i64 0))]), none, [0, 1]⟩,
    ⟨(some 11), (.bin .neq (.s 10) (.c (.int .i64 0))), none, [2]⟩] false)
  (.cond (.s 11)
   (.seq (.region [
     ⟨(some 4), (.mv (.c (.int .i64 0))), none, []⟩,
     ⟨(some 5), (.mv (.c (.int .i64 0))), none, [0, 0]⟩,
     ⟨(some 6), (.mv (.c (.int .i64 0))), none, [1, 0, 1]⟩] false)
   .ret)
   .skip))
  (.seq (.region [
    ⟨(some 12), (.mv (.s 0)), none, []⟩,
    ⟨(some 13), (.mv (.s 1)), none, []⟩,
    ⟨(some 14), (.nilc (.s 12)), none, [0]⟩,
    ⟨(some 15), (.fad 33 (.s 14)), none, [2]⟩,
    ⟨(some 16), (.iaa 2 4 (.s 15) (.s 13)), none, [3, 1]⟩,
    ⟨(some 17), (.lda 4 none (.s 16)), none, [4]⟩,
    ⟨(some 7), (.new (.vals [.nils, (.int .i64 0), (.int .i64 0), (.int .i64 0)])), none, []⟩,
    ⟨none, (.stc 4 (.s 7) (.s 17)), none, [6, 5, 0, 1, 2, 3, 4, 5, 6]⟩] false)
  (.seq (.region [
    ⟨(some 18), (.fad 1 (.s 7)), none, []⟩,
    ⟨(some 19), (.ldc (.s 18)), none, [0]⟩,
    ⟨(some 20), (.fad 2 (.s 7)), none, []⟩,
    ⟨(some 21), (.ldc (.s 20)), none, [2]⟩,
    ⟨(some 22), (.fad 3 (.s 7)), none, []⟩,
    ⟨(some 23), (.ldc (.s 22)), none, [4]⟩,
    ⟨(some 4), (.mv (.s 19)), none, [1, 0, 1]⟩,
    ⟨(some 5), (.mv (.s 21)), none, [3, 6, 0, 1, 2, 3, 6]⟩,
    ⟨(some 6), (.mv (.s 23)), none, [5, 7, 0, 1, 2, 3, 4, 5, 6, 7]⟩] true)
  .ret)))), false, none, none, false⟩

/-- (*euphroe/chans.Chan).Peek -/
def k90 : Fun := ⟨2, 17, [0, 1, 4, 8], [(.tmp 4)],
  (.seq (.region [
    ⟨(some 4), (.mv (.c .nils)), none, []⟩] false)
  (.seq (.seq (.region [
    ⟨(some 5), (.mv (.s 0)), none, []⟩,
    ⟨(some 6), (.mv (.s 1)), none, []⟩,
    ⟨(some 7), (.call (.c (.fn 106 [])) [(.s 5), (.s 6), (.c (.int .i64 0))]), none, [0, 1]⟩,
    ⟨(some 8), (.bin .neq (.s 7) (.c (.int .i64 0))), none, [2]⟩] false)
  (.cond (.s 8)
   (.seq (.region [
     ⟨(some 4), (.mv (.c .nils)), none, []⟩] false)
   (.pre ⟨0, [(4, (Sh.sl (Sh.int .u8)))], true, [], []⟩ .ret))
   .skip))
  (.seq (.region [
    ⟨(some 9), (.mv (.s 0)), none, []⟩,
    ⟨(some 10), (.mv (.s 1)), none, []⟩,
    ⟨(some 11), (.nilc (.s 9)), none, [0]⟩,
    ⟨(some 12), (.fad 33 (.s 11)), none, [2]⟩,
    ⟨(some 13), (.iaa 2 4 (.s 12) (.s 10)), none, [3, 1]⟩,
    ⟨(some 14), (.fad 0 (.s 13)), none, [4]⟩,
    ⟨(some 15), (.ldc (.s 14)), none, [5]⟩,
    ⟨(some 16), (.call (.c (.fn 108 [])) [(.s 15)]), none, [6]⟩,
    ⟨(some 4), (.mv (.s 16)), none, [7, 7, 0, 1, 2, 3, 4, 5, 6, 7]⟩] false)
  (.pre ⟨0, [(4, (Sh.sl (Sh.int .u8)))], true, [], []⟩ .ret)))), false, none, none, false⟩

/-- (*euphroe/chans.Chan).Len -/
def k91 : Fun := ⟨2, 9, [0, 1, 4], [(.tmp 4)],
  (.seq (.region [
    ⟨(some 4), (.mv (.c (.int .i64 0))), none, []⟩] false)
  (.seq (.region [
    ⟨(some 5), (.mv (.s 0)), none, []⟩,
    ⟨(some 6), (.mv (.s 1)), none, []⟩,
    ⟨(some 7), (.call (.c (.fn 90 [])) [(.s 5), (.s 6)]), none, [0, 1]⟩,
    ⟨(some 8), (.len false (.s 7)), none, [2]⟩,
    ⟨(some 4), (.mv (.s 8)), none, [3, 2, 0, 1, 2, 3]⟩] false)
  .ret)), false, none, none, false⟩

/-- (*euphroe/chans.Chan).Open -/
def k98 : Fun := ⟨1, 12, [0, 2], [(.tmp 2)],
  (.seq (.region [
    ⟨(some 2), (.mv (.c (.bool false))), none, []⟩] false)
  (.seq (.region [
    ⟨(some 3), (.mv (.s 0)), none, []⟩,
    ⟨(some 4), (.call (.c (.fn 110 [])) [(.s 3)]), none, [0]⟩,
    ⟨(some 5), (.mv (.s 4)), none, [1, 1]⟩,
    ⟨(some 6), (.mv (.s 0)), (some (5, true)), [2]⟩,
    ⟨(some 7), (.nilc (.s 6)), (some (5, true)), [3, 2]⟩,
    ⟨(some 8), (.fad 41 (.s 7)), (some (5, true)), [4, 2]⟩,
    ⟨(some 9), (.ldc (.s 8)), (some (5, true)), [5, 2]⟩,
    ⟨(some 10), (.un .not (.s 9)), (some (5, true)), [6, 2]⟩,
    ⟨(some 11), (.pick (.s 5) (.s 10) (.c (.bool false))), none, [2, 7]⟩,
    ⟨(some 2), (.mv (.s 11)), none, [8, 2, 0, 1, 2, 3, 4, 5, 6, 7, 8]⟩] false)
  .ret)), false, none, none, true⟩

/-- (*euphroe/chans.Chan).Hash -/
def k99 : Fun := ⟨1, 11, [0, 2, 5], [(.cell 2 32 true (some .u8))],
  (.seq (.region [
    ⟨(some 2), (.new (.ints .u8 [0, 0, 0, 0, 0, 0, 0, 0, 0, 0, 0, 0, 0, 0, 0, 0, 0, 0, 0, 0, 0, 0, 0, 0, 0, 0, 0, 0, 0, 0, 0, 0])), none, []⟩] false)
  (.seq (.seq (.region [
    ⟨(some 3), (.mv (.s 0)), none, []⟩,
    ⟨(some 4), (.call (.c (.fn 110 [])) [(.s 3)]), none, [0]⟩,
    ⟨(some 5), (.un .not (.s 4)), none, [1]⟩] false)
  (.cond (.s 5)
   (.seq (.region [
     ⟨(some 6), (.build (.ints .u8 [0, 0, 0, 0, 0, 0, 0, 0, 0, 0, 0, 0, 0, 0, 0, 0, 0, 0, 0, 0, 0, 0, 0, 0, 0, 0, 0, 0, 0, 0, 0, 0]) []), none, []⟩,
     ⟨none, (.stc 32 (.s 2) (.s 6)), none, [0, 0]⟩] false)
   .ret)
   .skip))
  (.seq (.region [
    ⟨(some 7), (.mv (.s 0)), none, []⟩,
    ⟨(some 8), (.nilc (.s 7)), none, [0]⟩,
    ⟨(some 9), (.fad 1 (.s 8)), none, [1]⟩,
    ⟨(some 10), (.lda 32 (some .u8) (.s 9)), none, [2]⟩,
    ⟨none, (.stc 32 (.s 2) (.s 10)), none, [3, 0, 1, 2, 3]⟩] false)
  .ret))), false, none, none, false⟩

/-- (*euphroe/chans.Chan).may -/
def k106 : Fun := ⟨3, 19, [0, 1, 2, 6, 7, 11], [(.tmp 6)],
  (.seq (.region [
    ⟨(some 6), (.mv (.c (.int .i64 0))), none, []⟩] false)
  (.seq (.block 0
   (.seq (.region [
     ⟨(some 8), (.mv (.s 0)), none, []⟩,
     ⟨(some 9), (.call (.c (.fn 110 [])) [(.s 8)]), none, [0]⟩,
     ⟨(some 10), (.un .not (.s 9)), none, [1]⟩,
     ⟨(some 7), (.mv (.s 10)), none, [2, 1]⟩] false)
   (.cond (.s 7)
    (.seq (.region [
      ⟨(some 6), (.mv (.c (.int .i64 2))), none, []⟩] false)
    .ret)
    (.seq (.region [
      ⟨(some 12), (.mv (.s 1)), none, []⟩,
      ⟨(some 13), (.call (.c (.fn 111 [])) [(.s 12)]), none, [0]⟩,
      ⟨(some 14), (.un .not (.s 13)), none, [1]⟩,
      ⟨(some 15), (.mv (.s 14)), none, [2, 1]⟩,
      ⟨(some 16), (.mv (.s 2)), (some (15, false)), [3]⟩,
      ⟨(some 17), (.bin .lss (.s 16) (.c (.int .i64 0))), (some (15, false)), [4, 3]⟩,
      ⟨(some 18), (.pick (.s 15) (.c (.bool true)) (.s 17)), none, [3, 5]⟩,
      ⟨(some 11), (.mv (.s 18)), none, [6, 3]⟩] false)
    (.cond (.s 11)
     (.seq (.region [
       ⟨(some 6), (.mv (.c (.int .i64 1))), none, []⟩] false)
     .ret)
     .skip)))))
  (.seq (.region [
    ⟨(some 6), (.mv (.c (.int .i64 0))), none, []⟩] false)
  .ret))), false, none, none, true⟩

/-- (*euphroe/chans.Chan).holds -/
def k107 : Fun := ⟨3, 24, [0, 1, 2, 6, 7, 12], [(.tmp 6)],
  (.seq (.region [
    ⟨(some 6), (.mv (.c (.int .i64 0))), none, []⟩] false)
  (.seq (.block 0
   (.seq (.region [
     ⟨(some 8), (.mv (.s 0)), none, []⟩,
     ⟨(some 9), (.nilc (.s 8)), none, [0]⟩,
     ⟨(some 10), (.fad 41 (.s 9)), none, [1]⟩,
     ⟨(some 11), (.ldc (.s 10)), none, [2]⟩,
     ⟨(some 7), (.mv (.s 11)), none, [3]⟩] false)
   (.cond (.s 7)
    (.seq (.region [
      ⟨(some 6), (.mv (.c (.int .i64 11))), none, []⟩] false)
    .ret)
    (.seq (.region [
      ⟨(some 13), (.mv (.s 0)), none, []⟩,
      ⟨(some 14), (.mv (.s 1)), none, []⟩,
      ⟨(some 15), (.nilc (.s 13)), none, [0]⟩,
      ⟨(some 16), (.fad 33 (.s 15)), none, [2]⟩,
      ⟨(some 17), (.iaa 2 4 (.s 16) (.s 14)), none, [3, 1]⟩,
      ⟨(some 18), (.fad 0 (.s 17)), none, [4]⟩,
      ⟨(some 19), (.ldc (.s 18)), none, [5]⟩,
      ⟨(some 20), (.len false (.s 19)), none, [6]⟩,
      ⟨(some 21), (.mv (.s 2)), none, []⟩,
      ⟨(some 22), (.bin .add (.s 20) (.s 21)), none, [7, 8]⟩,
      ⟨(some 23), (.bin .gtr (.s 22) (.c (.int .i64 65536))), none, [9]⟩,
      ⟨(some 12), (.mv (.s 23)), none, [10]⟩] false)
    (.cond (.s 12)
     (.seq (.region [
       ⟨(some 6), (.mv (.c (.int .i64 12))), none, []⟩] false)
     .ret)
     .skip)))))
  (.seq (.region [
    ⟨(some 6), (.mv (.c (.int .i64 0))), none, []⟩] false)
  .ret))), false, none, none, true⟩

/-- (*euphroe/chans.way).cut -/
def k109 : Fun := ⟨2, 30, [0, 1, 4, 5], [(.tmp 4)],
  (.seq (.region [
    ⟨(some 4), (.mv (.c .nils)), none, []⟩] false)
  (.seq (.region [
    ⟨(some 6), (.mv (.s 1)), none, []⟩,
    ⟨(some 7), (.mv (.s 0)), none, []⟩,
    ⟨(some 8), (.nilc (.s 7)), none, [1]⟩,
    ⟨(some 9), (.fad 0 (.s 8)), none, [2]⟩,
    ⟨(some 10), (.ldc (.s 9)), none, [3]⟩,
    ⟨(some 11), (.len false (.s 10)), none, [4]⟩,
    ⟨(some 12), (.mnx false [(.s 6), (.s 11)]), none, [0, 5]⟩,
    ⟨(some 1), (.mv (.s 12)), none, [6, 0, 1, 2, 3, 4, 5, 6]⟩] false)
  (.seq (.region [
    ⟨(some 13), (.mv (.s 0)), none, []⟩,
    ⟨(some 14), (.nilc (.s 13)), none, [0]⟩,
    ⟨(some 15), (.fad 0 (.s 14)), none, [1]⟩,
    ⟨(some 16), (.ldc (.s 15)), none, [2]⟩,
    ⟨(some 17), (.mv (.s 1)), none, []⟩,
    ⟨(some 18), (.sls 1 (.s 16) none (some (.s 17)) none), none, [3, 4]⟩,
    ⟨(some 19), (.call (.c (.fn 108 [])) [(.s 18)]), none, [5]⟩,
    ⟨(some 5), (.mv (.s 19)), none, [6, 6, 0, 1, 2, 3, 4, 5, 6]⟩] false)
  (.seq (.region [
    ⟨(some 20), (.mv (.s 0)), none, []⟩,
    ⟨(some 21), (.mv (.s 0)), none, []⟩,
    ⟨(some 22), (.nilc (.s 21)), none, [1]⟩,
    ⟨(some 23), (.fad 0 (.s 22)), none, [2]⟩,
    ⟨(some 24), (.ldc (.s 23)), none, [3]⟩,
    ⟨(some 25), (.mv (.s 1)), none, []⟩,
    ⟨(some 26), (.sls 1 (.s 24) (some (.s 25)) none none), none, [4, 5]⟩,
    ⟨(some 27), (.nilc (.s 20)), none, [0, 0, 1, 2, 3, 4, 5, 6]⟩,
    ⟨(some 28), (.fad 0 (.s 27)), none, [7, 0, 1, 2, 3, 4, 5, 6]⟩,
    ⟨none, (.stc 1 (.s 28) (.s 26)), none, [8, 6, 0, 1, 2, 3, 4, 5, 6]⟩] false)
  (.seq (.region [
    ⟨(some 29), (.mv (.s 5)), none, []⟩,
    ⟨(some 4), (.mv (.s 29)), none, [0, 0]⟩] false)
  .ret))))), false, none, none, false⟩

/-- (*euphroe/chans.Chan).ok -/
def k110 : Fun := ⟨1, 11, [0, 2], [(.tmp 2)],
  (.seq (.region [
    ⟨(some 2), (.mv (.c (.bool false))), none, []⟩] false)
  (.seq (.region [
    ⟨(some 3), (.mv (.s 0)), none, []⟩,
    ⟨(some 4), (.eqn .p true (.s 3) (.c .nilp)), none, [0]⟩,
    ⟨(some 5), (.mv (.s 4)), none, [1]⟩,
    ⟨(some 6), (.mv (.s 0)), (some (5, true)), [2]⟩,
    ⟨(some 7), (.nilc (.s 6)), (some (5, true)), [3, 2]⟩,
    ⟨(some 8), (.fad 0 (.s 7)), (some (5, true)), [4, 2]⟩,
    ⟨(some 9), (.ldc (.s 8)), (some (5, true)), [5, 2]⟩,
    ⟨(some 10), (.pick (.s 5) (.s 9) (.c (.bool false))), none, [2, 6]⟩,
    ⟨(some 2), (.mv (.s 10)), none, [7, 2, 0, 1, 2, 3, 4, 5, 6, 7]⟩] false)
  .ret)), false, none, none, true⟩

/-- euphroe/chans.isWay -/
def k111 : Fun := ⟨1, 9, [0, 2], [(.tmp 2)],
  (.seq (.region [
    ⟨(some 2), (.mv (.c (.bool false))), none, []⟩] false)
  (.seq (.region [
    ⟨(some 3), (.mv (.s 0)), none, []⟩,
    ⟨(some 4), (.bin .eql (.s 3) (.c (.int .i64 0))), none, [0]⟩,
    ⟨(some 5), (.mv (.s 4)), none, [1]⟩,
    ⟨(some 6), (.mv (.s 0)), (some (5, false)), [2]⟩,
    ⟨(some 7), (.bin .eql (.s 6) (.c (.int .i64 1))), (some (5, false)), [3, 2]⟩,
    ⟨(some 8), (.pick (.s 5) (.c (.bool true)) (.s 7)), none, [2, 4]⟩,
    ⟨(some 2), (.mv (.s 8)), none, [5, 2, 0, 1, 2, 3, 4, 5]⟩] false)
  .ret)), false, (some [(Sh.int .i64)]), (some Sh.bool), false⟩

def FT : Nat → Option Fun
  | 23 => some k23
  | 71 => some k71
  | 84 => some k84
  | 85 => some k85
  | 86 => some k86
  | 87 => some k87
  | 88 => some k88
  | 89 => some k89
  | 90 => some k90
  | 91 => some k91
  | 98 => some k98
  | 99 => some k99
  | 106 => some k106
  | 107 => some k107
  | 109 => some k109
  | 110 => some k110
  | 111 => some k111
  | _ => none
end Go.Proofs.YtcnkihdjenjdgaaE
