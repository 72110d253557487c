/- The evaluator's functions. -/
import Derived.Test.YtcnkihdjenjdgaaEvXT
namespace Go.Proofs.YtcnkihdjenjdgaaE
open Go
set_option linter.unusedVariables false
set_option linter.unusedSimpArgs false

/-- euphroe/euphroelaw38.ChansNobody -/
def k74 : Fun := ⟨3, 146, [0, 1, 2, 6, 7, 9, 10, 11, 12, 13, 14, 15, 16, 17, 18, 19, 20, 23, 29, 30, 31, 32, 130], [(.tmp 6)],
  (.seq (.region [
    ⟨(some 6), (.mv (.c (.bool false))), none, []⟩] false)
  (.seq (.seq (.region [
    ⟨(some 21), (.mv (.s 2)), none, []⟩,
    ⟨(some 22), (.len false (.s 21)), none, [0]⟩,
    ⟨(some 23), (.bin .gtr (.s 22) (.c (.int .i64 1000))), none, [1]⟩] false)
  (.cond (.s 23)
   (.seq (.region [
     ⟨(some 24), (.call (.c (.fn 84 [])) []), none, []⟩,
     ⟨(some 6), (.mv (.s 24)), none, [0, 0, 0]⟩] false)
   .ret)
   .skip))
  (.seq (.region [
    ⟨(some 25), (.build (.ints .u8 [0, 0, 0, 0, 0, 0, 0, 0, 0, 0, 0, 0, 0, 0, 0, 0, 0, 0, 0, 0, 0, 0, 0, 0, 0, 0, 0, 0, 0, 0, 0, 0]) []), none, []⟩,
    ⟨(some 26), (.call (.c (.fn 85 [])) [(.s 25)]), none, [0]⟩,
    ⟨(some 7), (.mv (.s 26)), none, [1, 1, 0, 1]⟩] false)
  (.seq (.seq (.region [
    ⟨(some 27), (.build (.vals [(.bool false), (.int .u8 0), (.int .u8 0), (.int .u8 0), (.int .u8 0), (.int .u8 0), (.int .u8 0), (.int .u8 0), (.int .u8 0), (.int .u8 0), (.int .u8 0), (.int .u8 0), (.int .u8 0), (.int .u8 0), (.int .u8 0), (.int .u8 0), (.int .u8 0), (.int .u8 0), (.int .u8 0), (.int .u8 0), (.int .u8 0), (.int .u8 0), (.int .u8 0), (.int .u8 0), (.int .u8 0), (.int .u8 0), (.int .u8 0), (.int .u8 0), (.int .u8 0), (.int .u8 0), (.int .u8 0), (.int .u8 0), (.int .u8 0), .nils, (.int .i64 0), (.int .i64 0), (.int .i64 0), .nils, (.int .i64 0), (.int .i64 0), (.int .i64 0), (.bool false)]) []), none, []⟩,
    ⟨(some 28), (.box (.s 27)), none, [0]⟩,
    ⟨(some 29), (.bsl 2 1 (.vals [.nilp, .nilp]) [(0, 1, (.c .nilp)), (1, 1, (.s 28))]), none, [1]⟩,
    ⟨(some 30), (.len false (.s 29)), none, [2]⟩,
    ⟨(some 31), (.mv (.c (.int .i64 0))), none, []⟩] false)
  (.block 0
   (.loop ⟨0, [], false, [0, 1, 2, 7, 29, 30, 31], []⟩
    (.seq (.region [
      ⟨(some 32), (.bin .lss (.s 31) (.s 30)), none, []⟩] false)
    (.seq (.cond (.s 32)
     .skip
     (.pre ⟨0, [], false, [2, 7], []⟩ (.exit 0)))
    (.seq (.block 1
     (.seq (.region [
       ⟨(some 33), (.iad 1 (.s 29) (.s 31)), none, []⟩,
       ⟨(some 34), (.ldc (.s 33)), none, [0]⟩,
       ⟨(some 9), (.mv (.s 34)), none, [1, 0, 1]⟩] false)
     (.seq (.region [
       ⟨(some 36), (.mv (.s 9)), none, []⟩,
       ⟨(some 37), (.mv (.s 0)), none, []⟩,
       ⟨(some 38), (.mv (.s 1)), none, []⟩,
       ⟨(some 39), (.call (.c (.fn 88 [])) [(.s 36), (.s 37), (.s 38)]), none, [0, 1, 2]⟩,
       ⟨(some 35), (.mv (.s 39)), none, [3]⟩,
       ⟨(some 40), (.ext (.s 35) 0), none, [4]⟩,
       ⟨(some 41), (.ext (.s 35) 1), none, [4]⟩,
       ⟨(some 10), (.mv (.s 40)), none, [5, 3, 0, 1, 2, 3, 4, 5]⟩,
       ⟨(some 11), (.mv (.s 41)), none, [6, 7, 0, 1, 2, 3, 4, 5, 6, 7]⟩] false)
     (.seq (.region [
       ⟨(some 43), (.mv (.s 9)), none, []⟩,
       ⟨(some 44), (.mv (.s 0)), none, []⟩,
       ⟨(some 45), (.mv (.s 1)), none, []⟩,
       ⟨(some 46), (.call (.c (.fn 87 [])) [(.s 43), (.s 44), (.s 45)]), none, [0, 1, 2]⟩,
       ⟨(some 42), (.mv (.s 46)), none, [3]⟩,
       ⟨(some 47), (.ext (.s 42) 0), none, [4]⟩,
       ⟨(some 48), (.ext (.s 42) 1), none, [4]⟩,
       ⟨(some 12), (.mv (.s 47)), none, [5, 3, 0, 1, 2, 3, 4, 5]⟩,
       ⟨(some 13), (.mv (.s 48)), none, [6, 7, 0, 1, 2, 3, 4, 5, 6, 7]⟩] false)
     (.seq (.region [
       ⟨(some 50), (.mv (.s 9)), none, []⟩,
       ⟨(some 51), (.mv (.s 0)), none, []⟩,
       ⟨(some 52), (.mv (.s 7)), none, []⟩,
       ⟨(some 53), (.mv (.s 1)), none, []⟩,
       ⟨(some 54), (.call (.c (.fn 92 [])) [(.s 50), (.s 51), (.s 52), (.c (.int .i64 0)), (.s 53)]), none, [0, 1, 2, 3]⟩,
       ⟨(some 49), (.mv (.s 54)), none, [4]⟩,
       ⟨(some 55), (.ext (.s 49) 0), none, [5]⟩,
       ⟨(some 56), (.ext (.s 49) 1), none, [5]⟩,
       ⟨(some 14), (.mv (.s 55)), none, [6, 4, 0, 1, 2, 3, 4, 5, 6]⟩,
       ⟨(some 15), (.mv (.s 56)), none, [7, 8, 0, 1, 2, 3, 4, 5, 6, 7, 8]⟩] false)
     (.seq (.region [
       ⟨(some 58), (.mv (.s 7)), none, []⟩,
       ⟨(some 59), (.mv (.s 9)), none, []⟩,
       ⟨(some 60), (.mv (.s 0)), none, []⟩,
       ⟨(some 61), (.mv (.s 1)), none, []⟩,
       ⟨(some 62), (.call (.c (.fn 92 [])) [(.s 58), (.c (.int .i64 0)), (.s 59), (.s 60), (.s 61)]), none, [0, 1, 2, 3]⟩,
       ⟨(some 57), (.mv (.s 62)), none, [4]⟩,
       ⟨(some 63), (.ext (.s 57) 0), none, [5]⟩,
       ⟨(some 64), (.ext (.s 57) 1), none, [5]⟩,
       ⟨(some 16), (.mv (.s 63)), none, [6, 4, 0, 1, 2, 3, 4, 5, 6]⟩,
       ⟨(some 17), (.mv (.s 64)), none, [7, 8, 0, 1, 2, 3, 4, 5, 6, 7, 8]⟩] false)
     (.seq (.region [
       ⟨(some 66), (.mv (.s 9)), none, []⟩,
       ⟨(some 67), (.mv (.s 0)), none, []⟩,
       ⟨(some 68), (.call (.c (.fn 89 [])) [(.s 66), (.s 67)]), none, [0, 1]⟩,
       ⟨(some 65), (.mv (.s 68)), none, [2]⟩,
       ⟨(some 69), (.ext (.s 65) 0), none, [3]⟩,
       ⟨(some 70), (.ext (.s 65) 1), none, [3]⟩,
       ⟨(some 71), (.ext (.s 65) 2), none, [3]⟩,
       ⟨(some 18), (.mv (.s 69)), none, [4, 2, 0, 1, 2, 3, 4]⟩,
       ⟨(some 19), (.mv (.s 70)), none, [5, 7, 0, 1, 2, 3, 4, 5, 7]⟩,
       ⟨(some 20), (.mv (.s 71)), none, [6, 8, 0, 1, 2, 3, 4, 5, 6, 7, 8]⟩] false)
     (.seq (.region [
       ⟨(some 72), (.mv (.s 9)), none, []⟩,
       ⟨(some 73), (.call (.c (.fn 97 [])) [(.s 72)]), none, [0]⟩] false)
     (.seq (.region [
       ⟨(some 74), (.mv (.s 9)), none, []⟩,
       ⟨(some 75), (.mv (.s 0)), none, []⟩,
       ⟨(some 76), (.mv (.s 2)), none, []⟩,
       ⟨(some 77), (.call (.c (.fn 86 [])) [(.s 74), (.s 75), (.s 76)]), none, [0, 1, 2]⟩,
       ⟨(some 78), (.bin .neq (.s 77) (.c (.int .i64 2))), none, [3]⟩,
       ⟨(some 79), (.mv (.s 78)), none, [4, 3]⟩,
       ⟨(some 80), (.mv (.s 11)), (some (79, false)), [5]⟩,
       ⟨(some 81), (.bin .neq (.s 80) (.c (.int .i64 2))), (some (79, false)), [6, 5]⟩,
       ⟨(some 82), (.pick (.s 79) (.c (.bool true)) (.s 81)), none, [5, 7]⟩,
       ⟨(some 83), (.mv (.s 82)), none, [8, 5]⟩,
       ⟨(some 84), (.mv (.s 13)), (some (83, false)), [9]⟩,
       ⟨(some 85), (.bin .neq (.s 84) (.c (.int .i64 2))), (some (83, false)), [10, 9]⟩,
       ⟨(some 86), (.pick (.s 83) (.c (.bool true)) (.s 85)), none, [9, 11]⟩,
       ⟨(some 87), (.mv (.s 86)), none, [12, 9]⟩,
       ⟨(some 88), (.mv (.s 15)), (some (87, false)), [13]⟩,
       ⟨(some 89), (.bin .neq (.s 88) (.c (.int .i64 2))), (some (87, false)), [14, 13]⟩,
       ⟨(some 90), (.pick (.s 87) (.c (.bool true)) (.s 89)), none, [13, 15]⟩,
       ⟨(some 91), (.mv (.s 90)), none, [16, 13]⟩,
       ⟨(some 92), (.mv (.s 17)), (some (91, false)), [17]⟩,
       ⟨(some 93), (.bin .neq (.s 92) (.c (.int .i64 2))), (some (91, false)), [18, 17]⟩,
       ⟨(some 94), (.pick (.s 91) (.c (.bool true)) (.s 93)), none, [17, 19]⟩,
       ⟨(some 95), (.mv (.s 94)), none, [20, 17]⟩,
       ⟨(some 96), (.mv (.s 10)), (some (95, false)), [21]⟩,
       ⟨(some 97), (.len false (.s 96)), (some (95, false)), [22, 21]⟩,
       ⟨(some 98), (.mv (.s 12)), (some (95, false)), [21]⟩,
       ⟨(some 99), (.bin .add (.s 97) (.s 98)), (some (95, false)), [23, 24, 21]⟩,
       ⟨(some 100), (.mv (.s 14)), (some (95, false)), [21]⟩,
       ⟨(some 101), (.bin .add (.s 99) (.s 100)), (some (95, false)), [25, 26, 21]⟩,
       ⟨(some 102), (.mv (.s 16)), (some (95, false)), [21]⟩,
       ⟨(some 103), (.bin .add (.s 101) (.s 102)), (some (95, false)), [27, 28, 21]⟩,
       ⟨(some 104), (.mv (.s 18)), (some (95, false)), [21]⟩,
       ⟨(some 105), (.bin .add (.s 103) (.s 104)), (some (95, false)), [29, 30, 21]⟩,
       ⟨(some 106), (.mv (.s 19)), (some (95, false)), [21]⟩,
       ⟨(some 107), (.bin .add (.s 105) (.s 106)), (some (95, false)), [31, 32, 21]⟩,
       ⟨(some 108), (.mv (.s 20)), (some (95, false)), [21]⟩,
       ⟨(some 109), (.bin .add (.s 107) (.s 108)), (some (95, false)), [33, 34, 21]⟩,
       ⟨(some 110), (.mv (.s 9)), (some (95, false)), [21]⟩,
       ⟨(some 111), (.mv (.s 0)), (some (95, false)), [21]⟩,
       ⟨(some 112), (.call (.c (.fn 91 [])) [(.s 110), (.s 111)]), (some (95, false)), [36, 37, 21, 21]⟩,
       ⟨(some 113), (.bin .add (.s 109) (.s 112)), (some (95, false)), [35, 38, 21]⟩,
       ⟨(some 114), (.mv (.s 9)), (some (95, false)), [21]⟩,
       ⟨(some 115), (.mv (.s 0)), (some (95, false)), [21]⟩,
       ⟨(some 116), (.call (.c (.fn 90 [])) [(.s 114), (.s 115)]), (some (95, false)), [40, 41, 38, 21]⟩,
       ⟨(some 117), (.len false (.s 116)), (some (95, false)), [42, 21]⟩,
       ⟨(some 118), (.bin .add (.s 113) (.s 117)), (some (95, false)), [39, 43, 21]⟩,
       ⟨(some 119), (.bin .neq (.s 118) (.c (.int .i64 0))), (some (95, false)), [44, 21]⟩,
       ⟨(some 120), (.pick (.s 95) (.c (.bool true)) (.s 119)), none, [21, 45]⟩,
       ⟨(some 121), (.mv (.s 120)), none, [46, 42]⟩,
       ⟨(some 122), (.mv (.s 9)), (some (121, false)), [47]⟩,
       ⟨(some 123), (.call (.c (.fn 98 [])) [(.s 122)]), (some (121, false)), [48, 47, 47]⟩,
       ⟨(some 124), (.pick (.s 121) (.c (.bool true)) (.s 123)), none, [47, 49]⟩,
       ⟨(some 125), (.mv (.s 124)), none, [50, 49]⟩,
       ⟨(some 126), (.mv (.s 9)), (some (125, false)), [51]⟩,
       ⟨(some 127), (.call (.c (.fn 99 [])) [(.s 126)]), (some (125, false)), [52, 51, 51]⟩,
       ⟨(some 128), (.build (.ints .u8 [0, 0, 0, 0, 0, 0, 0, 0, 0, 0, 0, 0, 0, 0, 0, 0, 0, 0, 0, 0, 0, 0, 0, 0, 0, 0, 0, 0, 0, 0, 0, 0]) []), (some (125, false)), [51]⟩,
       ⟨(some 129), (.eqa 32 true (.s 127) (.s 128)), (some (125, false)), [53, 54, 51]⟩,
       ⟨(some 130), (.pick (.s 125) (.c (.bool true)) (.s 129)), none, [51, 55]⟩] false)
     (.cond (.s 130)
      (.seq (.region [
        ⟨(some 6), (.mv (.c (.bool false))), none, []⟩] false)
      .ret)
      .skip))))))))))
    (.region [
      ⟨(some 131), (.bin .add (.s 31) (.c (.int .i64 1))), none, []⟩,
      ⟨(some 31), (.mv (.s 131)), none, [0]⟩] false)))))))
  (.seq (.region [
    ⟨(some 132), (.mv (.s 7)), none, []⟩,
    ⟨(some 133), (.call (.c (.fn 97 [])) [(.s 132)]), none, [0]⟩] false)
  (.seq (.region [
    ⟨(some 134), (.mv (.s 7)), none, []⟩,
    ⟨(some 135), (.mv (.s 2)), none, []⟩,
    ⟨(some 136), (.call (.c (.fn 86 [])) [(.s 134), (.c (.int .i64 0)), (.s 135)]), none, [0, 1]⟩,
    ⟨(some 137), (.bin .eql (.s 136) (.c (.int .i64 11))), none, [2]⟩,
    ⟨(some 138), (.mv (.s 137)), none, [3, 2]⟩,
    ⟨(some 139), (.mv (.s 7)), (some (138, true)), [4]⟩,
    ⟨(some 140), (.call (.c (.fn 98 [])) [(.s 139)]), (some (138, true)), [5, 4, 4]⟩,
    ⟨(some 141), (.un .not (.s 140)), (some (138, true)), [6, 4]⟩,
    ⟨(some 142), (.pick (.s 138) (.s 141) (.c (.bool false))), none, [4, 7]⟩,
    ⟨(some 143), (.mv (.s 142)), none, [8, 6]⟩,
    ⟨(some 144), (.call (.c (.fn 84 [])) []), (some (143, true)), [9, 9]⟩,
    ⟨(some 145), (.pick (.s 143) (.s 144) (.c (.bool false))), none, [9, 10]⟩,
    ⟨(some 6), (.mv (.s 145)), none, [11, 10, 0, 1, 2, 3, 4, 5, 6, 7, 8, 9, 10, 11]⟩] false)
  .ret)))))), false, (some [(Sh.int .i64), (Sh.int .i64), (Sh.sl (Sh.int .u8))]), (some Sh.bool), false⟩

/-- euphroe/euphroelaw38.alive -/
def k84 : Fun := ⟨0, 46, [0, 1, 2, 3, 14], [(.tmp 0)],
  (.seq (.region [
    ⟨(some 0), (.mv (.c (.bool false))), none, []⟩] false)
  (.seq (.region [
    ⟨(some 4), (.build (.ints .u8 [0, 0, 0, 0, 0, 0, 0, 0, 0, 0, 0, 0, 0, 0, 0, 0, 0, 0, 0, 0, 0, 0, 0, 0, 0, 0, 0, 0, 0, 0, 0, 0]) [(0, 1, (.c (.int .u8 7)))]), none, []⟩,
    ⟨(some 5), (.call (.c (.fn 85 [])) [(.s 4)]), none, [0]⟩,
    ⟨(some 1), (.mv (.s 5)), none, [1, 1, 0, 1]⟩] false)
  (.seq (.seq (.region [
    ⟨(some 6), (.mv (.s 1)), none, []⟩,
    ⟨(some 7), (.eqn .p false (.s 6) (.c .nilp)), none, [0]⟩,
    ⟨(some 8), (.mv (.s 7)), none, [1]⟩,
    ⟨(some 9), (.mv (.s 1)), (some (8, false)), [2]⟩,
    ⟨(some 10), (.bsl 3 1 (.ints .u8 [0, 0, 0]) [(0, 1, (.c (.int .u8 97))), (1, 1, (.c (.int .u8 98))), (2, 1, (.c (.int .u8 99)))]), (some (8, false)), [2]⟩,
    ⟨(some 11), (.cvs (.s 10)), (some (8, false)), [4, 2]⟩,
    ⟨(some 12), (.call (.c (.fn 86 [])) [(.s 9), (.c (.int .i64 0)), (.s 11)]), (some (8, false)), [3, 5, 2, 2]⟩,
    ⟨(some 13), (.bin .neq (.s 12) (.c (.int .i64 0))), (some (8, false)), [6, 2]⟩,
    ⟨(some 14), (.pick (.s 8) (.c (.bool true)) (.s 13)), none, [2, 7]⟩] false)
  (.cond (.s 14)
   (.seq (.region [
     ⟨(some 0), (.mv (.c (.bool false))), none, []⟩] false)
   .ret)
   .skip))
  (.seq (.region [
    ⟨(some 16), (.mv (.s 1)), none, []⟩,
    ⟨(some 17), (.call (.c (.fn 88 [])) [(.s 16), (.c (.int .i64 0)), (.c (.int .i64 2))]), none, [0]⟩,
    ⟨(some 15), (.mv (.s 17)), none, [1]⟩,
    ⟨(some 18), (.ext (.s 15) 0), none, [2]⟩,
    ⟨(some 19), (.ext (.s 15) 1), none, [2]⟩,
    ⟨(some 2), (.mv (.s 18)), none, [3, 1, 0, 1, 2, 3]⟩,
    ⟨(some 3), (.mv (.s 19)), none, [4, 5, 0, 1, 2, 3, 4, 5]⟩] false)
  (.seq (.region [
    ⟨(some 20), (.mv (.s 2)), none, []⟩,
    ⟨(some 21), (.b2s (.s 20)), none, [0]⟩,
    ⟨(some 22), (.bin .eql (.s 21) (.c (.str [97, 98]))), none, [1]⟩,
    ⟨(some 23), (.mv (.s 22)), none, [2]⟩,
    ⟨(some 24), (.mv (.s 3)), (some (23, true)), [3]⟩,
    ⟨(some 25), (.bin .eql (.s 24) (.c (.int .i64 0))), (some (23, true)), [4, 3]⟩,
    ⟨(some 26), (.pick (.s 23) (.s 25) (.c (.bool false))), none, [3, 5]⟩,
    ⟨(some 27), (.mv (.s 26)), none, [6, 3]⟩,
    ⟨(some 28), (.mv (.s 1)), (some (27, true)), [7]⟩,
    ⟨(some 29), (.call (.c (.fn 91 [])) [(.s 28), (.c (.int .i64 0))]), (some (27, true)), [8, 7, 7]⟩,
    ⟨(some 30), (.bin .eql (.s 29) (.c (.int .i64 1))), (some (27, true)), [9, 7]⟩,
    ⟨(some 31), (.pick (.s 27) (.s 30) (.c (.bool false))), none, [7, 10]⟩,
    ⟨(some 32), (.mv (.s 31)), none, [11, 9]⟩,
    ⟨(some 33), (.mv (.s 1)), (some (32, true)), [12]⟩,
    ⟨(some 34), (.call (.c (.fn 99 [])) [(.s 33)]), (some (32, true)), [13, 12, 12]⟩,
    ⟨(some 35), (.build (.ints .u8 [0, 0, 0, 0, 0, 0, 0, 0, 0, 0, 0, 0, 0, 0, 0, 0, 0, 0, 0, 0, 0, 0, 0, 0, 0, 0, 0, 0, 0, 0, 0, 0]) [(0, 1, (.c (.int .u8 7)))]), (some (32, true)), [12]⟩,
    ⟨(some 36), (.eqa 32 false (.s 34) (.s 35)), (some (32, true)), [14, 15, 12]⟩,
    ⟨(some 37), (.pick (.s 32) (.s 36) (.c (.bool false))), none, [12, 16]⟩,
    ⟨(some 38), (.mv (.s 37)), none, [17, 14]⟩,
    ⟨(some 39), (.mv (.s 1)), (some (38, true)), [18]⟩,
    ⟨(some 40), (.call (.c (.fn 98 [])) [(.s 39)]), (some (38, true)), [19, 18, 18]⟩,
    ⟨(some 41), (.pick (.s 38) (.s 40) (.c (.bool false))), none, [18, 20]⟩,
    ⟨(some 42), (.mv (.s 41)), none, [21, 20]⟩,
    ⟨(some 43), (.pick (.s 42) (.c (.bool true)) (.c (.bool false))), none, [22]⟩,
    ⟨(some 44), (.mv (.s 43)), none, [23, 22]⟩,
    ⟨(some 45), (.pick (.s 44) (.c (.bool true)) (.c (.bool false))), none, [24]⟩,
    ⟨(some 0), (.mv (.s 45)), none, [25, 24, 0, 1, 2, 3, 4, 5, 6, 7, 8, 9, 10, 11, 12, 13, 14, 15, 16, 17, 18, 19, 20, 21, 22, 23, 24, 25]⟩] false)
  .ret))))), false, (some []), (some Sh.bool), false⟩

/-- euphroe/chans.New -/
def k85 : Fun := ⟨1, 6, [0, 1, 2], [(.tmp 2)],
  (.seq (.region [
    ⟨(some 1), (.box (.s 0)), none, []⟩,
    ⟨(some 2), (.mv (.c .nilp)), none, []⟩] false)
  (.seq (.region [
    ⟨(some 3), (.lda 32 (some .u8) (.s 1)), none, []⟩,
    ⟨(some 4), (.build (.vals [(.bool false), (.int .u8 0), (.int .u8 0), (.int .u8 0), (.int .u8 0), (.int .u8 0), (.int .u8 0), (.int .u8 0), (.int .u8 0), (.int .u8 0), (.int .u8 0), (.int .u8 0), (.int .u8 0), (.int .u8 0), (.int .u8 0), (.int .u8 0), (.int .u8 0), (.int .u8 0), (.int .u8 0), (.int .u8 0), (.int .u8 0), (.int .u8 0), (.int .u8 0), (.int .u8 0), (.int .u8 0), (.int .u8 0), (.int .u8 0), (.int .u8 0), (.int .u8 0), (.int .u8 0), (.int .u8 0), (.int .u8 0), (.int .u8 0), .nils, (.int .i64 0), (.int .i64 0), (.int .i64 0), .nils, (.int .i64 0), (.int .i64 0), (.int .i64 0), (.bool false)]) [(0, 1, (.c (.bool true))), (1, 32, (.s 3))]), none, [0]⟩,
    ⟨(some 5), (.box (.s 4)), none, [1]⟩,
    ⟨(some 2), (.mv (.s 5)), none, [2, 0, 1, 2]⟩] false)
  (.pre ⟨0, [(2, (Sh.st (Sh.pr Sh.bool (Sh.pr (Sh.int .u8) (Sh.pr (Sh.int .u8) (Sh.pr (Sh.int .u8) (Sh.pr (Sh.int .u8) (Sh.pr (Sh.int .u8) (Sh.pr (Sh.int .u8) (Sh.pr (Sh.int .u8) (Sh.pr (Sh.int .u8) (Sh.pr (Sh.int .u8) (Sh.pr (Sh.int .u8) (Sh.pr (Sh.int .u8) (Sh.pr (Sh.int .u8) (Sh.pr (Sh.int .u8) (Sh.pr (Sh.int .u8) (Sh.pr (Sh.int .u8) (Sh.pr (Sh.int .u8) (Sh.pr (Sh.int .u8) (Sh.pr (Sh.int .u8) (Sh.pr (Sh.int .u8) (Sh.pr (Sh.int .u8) (Sh.pr (Sh.int .u8) (Sh.pr (Sh.int .u8) (Sh.pr (Sh.int .u8) (Sh.pr (Sh.int .u8) (Sh.pr (Sh.int .u8) (Sh.pr (Sh.int .u8) (Sh.pr (Sh.int .u8) (Sh.pr (Sh.int .u8) (Sh.pr (Sh.int .u8) (Sh.pr (Sh.int .u8) (Sh.pr (Sh.int .u8) (Sh.pr (Sh.int .u8) (Sh.pr (Sh.sl (Sh.int .u8)) (Sh.pr (Sh.int .i64) (Sh.pr (Sh.int .i64) (Sh.pr (Sh.int .i64) (Sh.pr (Sh.sl (Sh.int .u8)) (Sh.pr (Sh.int .i64) (Sh.pr (Sh.int .i64) (Sh.pr (Sh.int .i64) Sh.bool)))))))))))))))))))))))))))))))))))))))))))], true, [], []⟩ .ret))), false, none, none, false⟩

/-- (*euphroe/chans.Chan).Put -/
def k86 : Fun := ⟨3, 48, [0, 1, 2, 6, 7, 8, 9, 14, 22], [(.tmp 6)],
  (.seq (.region [
    ⟨(some 6), (.mv (.c (.int .i64 0))), none, []⟩] false)
  (.seq (.seq (.region [
    ⟨(some 10), (.mv (.s 0)), none, []⟩,
    ⟨(some 11), (.mv (.s 1)), none, []⟩,
    ⟨(some 12), (.call (.c (.fn 106 [])) [(.s 10), (.s 11), (.c (.int .i64 0))]), none, [0, 1]⟩,
    ⟨(some 7), (.mv (.s 12)), none, [2, 2, 0, 1, 2]⟩] false)
  (.seq (.region [
    ⟨(some 13), (.mv (.s 7)), none, []⟩,
    ⟨(some 14), (.bin .neq (.s 13) (.c (.int .i64 0))), none, [0]⟩] false)
  (.cond (.s 14)
   (.seq (.region [
     ⟨(some 15), (.mv (.s 7)), none, []⟩,
     ⟨(some 6), (.mv (.s 15)), none, [0, 0]⟩] false)
   (.pre ⟨0, [(0, (Sh.st (Sh.pr Sh.bool (Sh.pr (Sh.int .u8) (Sh.pr (Sh.int .u8) (Sh.pr (Sh.int .u8) (Sh.pr (Sh.int .u8) (Sh.pr (Sh.int .u8) (Sh.pr (Sh.int .u8) (Sh.pr (Sh.int .u8) (Sh.pr (Sh.int .u8) (Sh.pr (Sh.int .u8) (Sh.pr (Sh.int .u8) (Sh.pr (Sh.int .u8) (Sh.pr (Sh.int .u8) (Sh.pr (Sh.int .u8) (Sh.pr (Sh.int .u8) (Sh.pr (Sh.int .u8) (Sh.pr (Sh.int .u8) (Sh.pr (Sh.int .u8) (Sh.pr (Sh.int .u8) (Sh.pr (Sh.int .u8) (Sh.pr (Sh.int .u8) (Sh.pr (Sh.int .u8) (Sh.pr (Sh.int .u8) (Sh.pr (Sh.int .u8) (Sh.pr (Sh.int .u8) (Sh.pr (Sh.int .u8) (Sh.pr (Sh.int .u8) (Sh.pr (Sh.int .u8) (Sh.pr (Sh.int .u8) (Sh.pr (Sh.int .u8) (Sh.pr (Sh.int .u8) (Sh.pr (Sh.int .u8) (Sh.pr (Sh.int .u8) (Sh.pr (Sh.sl (Sh.int .u8)) (Sh.pr (Sh.int .i64) (Sh.pr (Sh.int .i64) (Sh.pr (Sh.int .i64) (Sh.pr (Sh.sl (Sh.int .u8)) (Sh.pr (Sh.int .i64) (Sh.pr (Sh.int .i64) (Sh.pr (Sh.int .i64) Sh.bool)))))))))))))))))))))))))))))))))))))))))))], true, [], []⟩ .ret))
   .skip)))
  (.seq (.seq (.region [
    ⟨(some 16), (.mv (.s 0)), none, []⟩,
    ⟨(some 17), (.mv (.s 1)), none, []⟩,
    ⟨(some 18), (.mv (.s 2)), none, []⟩,
    ⟨(some 19), (.len false (.s 18)), none, [2]⟩,
    ⟨(some 20), (.call (.c (.fn 107 [])) [(.s 16), (.s 17), (.s 19)]), none, [0, 1, 3]⟩,
    ⟨(some 8), (.mv (.s 20)), none, [4, 4, 0, 1, 2, 3, 4]⟩] false)
  (.seq (.region [
    ⟨(some 21), (.mv (.s 8)), none, []⟩,
    ⟨(some 22), (.bin .neq (.s 21) (.c (.int .i64 0))), none, [0]⟩] false)
  (.cond (.s 22)
   (.seq (.region [
     ⟨(some 23), (.mv (.s 8)), none, []⟩,
     ⟨(some 6), (.mv (.s 23)), none, [0, 0]⟩] false)
   (.pre ⟨0, [(0, (Sh.st (Sh.pr Sh.bool (Sh.pr (Sh.int .u8) (Sh.pr (Sh.int .u8) (Sh.pr (Sh.int .u8) (Sh.pr (Sh.int .u8) (Sh.pr (Sh.int .u8) (Sh.pr (Sh.int .u8) (Sh.pr (Sh.int .u8) (Sh.pr (Sh.int .u8) (Sh.pr (Sh.int .u8) (Sh.pr (Sh.int .u8) (Sh.pr (Sh.int .u8) (Sh.pr (Sh.int .u8) (Sh.pr (Sh.int .u8) (Sh.pr (Sh.int .u8) (Sh.pr (Sh.int .u8) (Sh.pr (Sh.int .u8) (Sh.pr (Sh.int .u8) (Sh.pr (Sh.int .u8) (Sh.pr (Sh.int .u8) (Sh.pr (Sh.int .u8) (Sh.pr (Sh.int .u8) (Sh.pr (Sh.int .u8) (Sh.pr (Sh.int .u8) (Sh.pr (Sh.int .u8) (Sh.pr (Sh.int .u8) (Sh.pr (Sh.int .u8) (Sh.pr (Sh.int .u8) (Sh.pr (Sh.int .u8) (Sh.pr (Sh.int .u8) (Sh.pr (Sh.int .u8) (Sh.pr (Sh.int .u8) (Sh.pr (Sh.int .u8) (Sh.pr (Sh.sl (Sh.int .u8)) (Sh.pr (Sh.int .i64) (Sh.pr (Sh.int .i64) (Sh.pr (Sh.int .i64) (Sh.pr (Sh.sl (Sh.int .u8)) (Sh.pr (Sh.int .i64) (Sh.pr (Sh.int .i64) (Sh.pr (Sh.int .i64) Sh.bool)))))))))))))))))))))))))))))))))))))))))))], true, [], []⟩ .ret))
   .skip)))
  (.seq (.region [
    ⟨(some 24), (.mv (.s 0)), none, []⟩,
    ⟨(some 25), (.mv (.s 1)), none, []⟩,
    ⟨(some 26), (.nilc (.s 24)), none, [0]⟩,
    ⟨(some 27), (.fad 33 (.s 26)), none, [2]⟩,
    ⟨(some 28), (.iaa 2 4 (.s 27) (.s 25)), none, [3, 1]⟩,
    ⟨(some 9), (.mv (.s 28)), none, [4, 0, 1, 2, 3, 4]⟩] false)
  (.seq (.region [
    ⟨(some 29), (.mv (.s 9)), none, []⟩,
    ⟨(some 30), (.mv (.s 9)), none, []⟩,
    ⟨(some 31), (.nilc (.s 30)), none, [1]⟩,
    ⟨(some 32), (.fad 0 (.s 31)), none, [2]⟩,
    ⟨(some 33), (.ldc (.s 32)), none, [3]⟩,
    ⟨(some 34), (.call (.c (.fn 108 [])) [(.s 33)]), none, [4]⟩,
    ⟨(some 35), (.mv (.s 2)), none, []⟩,
    ⟨(some 36), (.app 1 1 (.s 34) (.s 35)), none, [5, 6, 5]⟩,
    ⟨(some 37), (.nilc (.s 29)), none, [0, 0, 1, 2, 3, 4, 5, 6, 7]⟩,
    ⟨(some 38), (.fad 0 (.s 37)), none, [8, 0, 1, 2, 3, 4, 5, 6, 7]⟩,
    ⟨none, (.stc 1 (.s 38) (.s 36)), none, [9, 7, 7, 0, 1, 2, 3, 4, 5, 6, 7]⟩] false)
  (.seq (.region [
    ⟨(some 39), (.mv (.s 9)), none, []⟩,
    ⟨(some 40), (.nilc (.s 39)), none, [0]⟩,
    ⟨(some 41), (.fad 1 (.s 40)), none, [1]⟩,
    ⟨(some 42), (.ldc (.s 41)), none, [2]⟩,
    ⟨(some 43), (.mv (.s 2)), none, []⟩,
    ⟨(some 44), (.len false (.s 43)), none, [4]⟩,
    ⟨(some 45), (.bin .add (.s 42) (.s 44)), none, [3, 5]⟩,
    ⟨(some 46), (.nilc (.s 39)), none, [0, 0, 1, 2, 3, 4, 5, 6]⟩,
    ⟨(some 47), (.fad 1 (.s 46)), none, [7, 0, 1, 2, 3, 4, 5, 6]⟩,
    ⟨none, (.stc 1 (.s 47) (.s 45)), none, [8, 6, 0, 1, 2, 3, 4, 5, 6]⟩] false)
  (.seq (.region [
    ⟨(some 6), (.mv (.c (.int .i64 0))), none, []⟩] false)
  (.pre ⟨0, [(0, (Sh.st (Sh.pr Sh.bool (Sh.pr (Sh.int .u8) (Sh.pr (Sh.int .u8) (Sh.pr (Sh.int .u8) (Sh.pr (Sh.int .u8) (Sh.pr (Sh.int .u8) (Sh.pr (Sh.int .u8) (Sh.pr (Sh.int .u8) (Sh.pr (Sh.int .u8) (Sh.pr (Sh.int .u8) (Sh.pr (Sh.int .u8) (Sh.pr (Sh.int .u8) (Sh.pr (Sh.int .u8) (Sh.pr (Sh.int .u8) (Sh.pr (Sh.int .u8) (Sh.pr (Sh.int .u8) (Sh.pr (Sh.int .u8) (Sh.pr (Sh.int .u8) (Sh.pr (Sh.int .u8) (Sh.pr (Sh.int .u8) (Sh.pr (Sh.int .u8) (Sh.pr (Sh.int .u8) (Sh.pr (Sh.int .u8) (Sh.pr (Sh.int .u8) (Sh.pr (Sh.int .u8) (Sh.pr (Sh.int .u8) (Sh.pr (Sh.int .u8) (Sh.pr (Sh.int .u8) (Sh.pr (Sh.int .u8) (Sh.pr (Sh.int .u8) (Sh.pr (Sh.int .u8) (Sh.pr (Sh.int .u8) (Sh.pr (Sh.int .u8) (Sh.pr (Sh.sl (Sh.int .u8)) (Sh.pr (Sh.int .i64) (Sh.pr (Sh.int .i64) (Sh.pr (Sh.int .i64) (Sh.pr (Sh.sl (Sh.int .u8)) (Sh.pr (Sh.int .i64) (Sh.pr (Sh.int .i64) (Sh.pr (Sh.int .i64) Sh.bool)))))))))))))))))))))))))))))))))))))))))))], true, [], []⟩ .ret)))))))), false, none, none, false⟩

/-- (*euphroe/chans.Chan).Lose -/
def k87 : Fun := ⟨3, 39, [0, 1, 2, 6, 7, 8, 9, 15], [(.tmp 6), (.tmp 7)],
  (.seq (.region [
    ⟨(some 6), (.mv (.c (.int .i64 0))), none, []⟩,
    ⟨(some 7), (.mv (.c (.int .i64 0))), none, [0]⟩] false)
  (.seq (.seq (.region [
    ⟨(some 10), (.mv (.s 0)), none, []⟩,
    ⟨(some 11), (.mv (.s 1)), none, []⟩,
    ⟨(some 12), (.mv (.s 2)), none, []⟩,
    ⟨(some 13), (.call (.c (.fn 106 [])) [(.s 10), (.s 11), (.s 12)]), none, [0, 1, 2]⟩,
    ⟨(some 8), (.mv (.s 13)), none, [3, 3, 0, 1, 2, 3]⟩] false)
  (.seq (.region [
    ⟨(some 14), (.mv (.s 8)), none, []⟩,
    ⟨(some 15), (.bin .neq (.s 14) (.c (.int .i64 0))), none, [0]⟩] false)
  (.cond (.s 15)
   (.seq (.region [
     ⟨(some 16), (.mv (.s 8)), none, []⟩,
     ⟨(some 6), (.mv (.c (.int .i64 0))), none, []⟩,
     ⟨(some 7), (.mv (.s 16)), none, [0, 1, 0, 1]⟩] false)
   .ret)
   .skip)))
  (.seq (.region [
    ⟨(some 17), (.mv (.s 0)), none, []⟩,
    ⟨(some 18), (.mv (.s 1)), none, []⟩,
    ⟨(some 19), (.nilc (.s 17)), none, [0]⟩,
    ⟨(some 20), (.fad 33 (.s 19)), none, [2]⟩,
    ⟨(some 21), (.iaa 2 4 (.s 20) (.s 18)), none, [3, 1]⟩,
    ⟨(some 22), (.mv (.s 2)), none, []⟩,
    ⟨(some 23), (.call (.c (.fn 109 [])) [(.s 21), (.s 22)]), none, [4, 5]⟩,
    ⟨(some 24), (.len false (.s 23)), none, [6]⟩,
    ⟨(some 9), (.mv (.s 24)), none, [7, 6, 0, 1, 2, 3, 4, 5, 6, 7]⟩] false)
  (.seq (.region [
    ⟨(some 25), (.mv (.s 0)), none, []⟩,
    ⟨(some 26), (.mv (.s 1)), none, []⟩,
    ⟨(some 27), (.nilc (.s 25)), none, [0]⟩,
    ⟨(some 28), (.fad 33 (.s 27)), none, [2]⟩,
    ⟨(some 29), (.iaa 2 4 (.s 28) (.s 26)), none, [3, 1]⟩,
    ⟨(some 30), (.fad 3 (.s 29)), none, [4]⟩,
    ⟨(some 31), (.ldc (.s 30)), none, [5]⟩,
    ⟨(some 32), (.mv (.s 9)), none, []⟩,
    ⟨(some 33), (.bin .add (.s 31) (.s 32)), none, [6, 7]⟩,
    ⟨(some 34), (.nilc (.s 25)), none, [0]⟩,
    ⟨(some 35), (.fad 33 (.s 34)), none, [9]⟩,
    ⟨(some 36), (.iaa 2 4 (.s 35) (.s 26)), none, [10, 1, 0, 1, 2, 3, 4, 5, 6, 7, 8]⟩,
    ⟨(some 37), (.fad 3 (.s 36)), none, [11, 0, 1, 2, 3, 4, 5, 6, 7, 8]⟩,
    ⟨none, (.stc 1 (.s 37) (.s 33)), none, [12, 8, 0, 1, 2, 3, 4, 5, 6, 7, 8]⟩] true)
  (.seq (.region [
    ⟨(some 38), (.mv (.s 9)), none, []⟩,
    ⟨(some 6), (.mv (.s 38)), none, [0, 0]⟩,
    ⟨(some 7), (.mv (.c (.int .i64 0))), none, [1, 0, 1]⟩] false)
  .ret))))), false, none, none, false⟩

/-- (*euphroe/chans.Chan).Take -/
def k88 : Fun := ⟨3, 39, [0, 1, 2, 6, 7, 8, 9, 15], [(.tmp 6), (.tmp 7)],
  (.seq (.region [
    ⟨(some 6), (.mv (.c .nils)), none, []⟩,
    ⟨(some 7), (.mv (.c (.int .i64 0))), none, [0]⟩] false)
  (.seq (.seq (.region [
    ⟨(some 10), (.mv (.s 0)), none, []⟩,
    ⟨(some 11), (.mv (.s 1)), none, []⟩,
    ⟨(some 12), (.mv (.s 2)), none, []⟩,
    ⟨(some 13), (.call (.c (.fn 106 [])) [(.s 10), (.s 11), (.s 12)]), none, [0, 1, 2]⟩,
    ⟨(some 8), (.mv (.s 13)), none, [3, 3, 0, 1, 2, 3]⟩] false)
  (.seq (.region [
    ⟨(some 14), (.mv (.s 8)), none, []⟩,
    ⟨(some 15), (.bin .neq (.s 14) (.c (.int .i64 0))), none, [0]⟩] false)
  (.cond (.s 15)
   (.seq (.region [
     ⟨(some 16), (.mv (.s 8)), none, []⟩,
     ⟨(some 6), (.mv (.c .nils)), none, []⟩,
     ⟨(some 7), (.mv (.s 16)), none, [0, 1, 0, 1]⟩] false)
   (.pre ⟨0, [(6, (Sh.sl (Sh.int .u8)))], true, [], []⟩ .ret))
   .skip)))
  (.seq (.region [
    ⟨(some 17), (.mv (.s 0)), none, []⟩,
    ⟨(some 18), (.mv (.s 1)), none, []⟩,
    ⟨(some 19), (.nilc (.s 17)), none, [0]⟩,
    ⟨(some 20), (.fad 33 (.s 19)), none, [2]⟩,
    ⟨(some 21), (.iaa 2 4 (.s 20) (.s 18)), none, [3, 1]⟩,
    ⟨(some 22), (.mv (.s 2)), none, []⟩,
    ⟨(some 23), (.call (.c (.fn 109 [])) [(.s 21), (.s 22)]), none, [4, 5]⟩,
    ⟨(some 9), (.mv (.s 23)), none, [6, 6, 0, 1, 2, 3, 4, 5, 6]⟩] false)
  (.seq (.region [
    ⟨(some 24), (.mv (.s 0)), none, []⟩,
    ⟨(some 25), (.mv (.s 1)), none, []⟩,
    ⟨(some 26), (.nilc (.s 24)), none, [0]⟩,
    ⟨(some 27), (.fad 33 (.s 26)), none, [2]⟩,
    ⟨(some 28), (.iaa 2 4 (.s 27) (.s 25)), none, [3, 1]⟩,
    ⟨(some 29), (.fad 2 (.s 28)), none, [4]⟩,
    ⟨(some 30), (.ldc (.s 29)), none, [5]⟩,
    ⟨(some 31), (.mv (.s 9)), none, []⟩,
    ⟨(some 32), (.len false (.s 31)), none, [7]⟩,
    ⟨(some 33), (.bin .add (.s 30) (.s 32)), none, [6, 8]⟩,
    ⟨(some 34), (.nilc (.s 24)), none, [0]⟩,
    ⟨(some 35), (.fad 33 (.s 34)), none, [10]⟩,
    ⟨(some 36), (.iaa 2 4 (.s 35) (.s 25)), none, [11, 1, 0, 1, 2, 3, 4, 5, 6, 7, 8, 9]⟩,
    ⟨(some 37), (.fad 2 (.s 36)), none, [12, 0, 1, 2, 3, 4, 5, 6, 7, 8, 9]⟩,
    ⟨none, (.stc 1 (.s 37) (.s 33)), none, [13, 9, 0, 1, 2, 3, 4, 5, 6, 7, 8, 9]⟩] true)
  (.seq (.region [
    ⟨(some 38), (.mv (.s 9)), none, []⟩,
    ⟨(some 6), (.mv (.s 38)), none, [0, 0]⟩,
    ⟨(some 7), (.mv (.c (.int .i64 0))), none, [1, 0, 1]⟩] false)
  (.pre ⟨0, [(6, (Sh.sl (Sh.int .u8)))], true, [], []⟩ .ret)))))), false, none, none, false⟩

/-- (*euphroe/chans.Chan).Counts -/
def k89 : Fun := ⟨2, 24, [0, 1, 4, 5, 6, 7, 11], [(.tmp 4), (.tmp 5), (.tmp 6)],
  (.seq (.region [
    ⟨(some 4), (.mv (.c (.int .i64 0))), none, []⟩,
    ⟨(some 5), (.mv (.c (.int .i64 0))), none, [0]⟩,
    ⟨(some 6), (.mv (.c (.int .i64 0))), none, [1]⟩] false)
  (.seq (.seq (.region [
    ⟨(some 8), (.mv (.s 0)), none, []⟩,
    ⟨(some 9), (.mv (.s 1)), none, []⟩,
    ⟨(some 10), (.call (.c (.fn 106 [])) [(.s 8), (.s 9), (.c (.int .i64 0))]), none, [0, 1]⟩,
    ⟨(some 11), (.bin .neq (.s 10) (.c (.int .i64 0))), none, [2]⟩] false)
  (.cond (.s 11)
   (.seq (.region [
     ⟨(some 4), (.mv (.c (.int .i64 0))), none, []⟩,
     ⟨(some 5), (.mv (.c (.int .i64 0))), none, [0, 0]⟩,
     ⟨(some 6), (.mv (.c (.int .i64 0))), none, [1, 0, 1]⟩] false)
   .ret)
   .skip))
  (.seq (.region [
    ⟨(some 12), (.mv (.s 0)), none, []⟩,
    ⟨(some 13), (.mv (.s 1)), none, []⟩,
    ⟨(some 14), (.nilc (.s 12)), none, [0]⟩,
    ⟨(some 15), (.fad 33 (.s 14)), none, [2]⟩,
    ⟨(some 16), (.iaa 2 4 (.s 15) (.s 13)), none, [3, 1]⟩,
    ⟨(some 17), (.lda 4 none (.s 16)), none, [4]⟩,
    ⟨(some 7), (.new (.vals [.nils, (.int .i64 0), (.int .i64 0), (.int .i64 0)])), none, []⟩,
    ⟨none, (.stc 4 (.s 7) (.s 17)), none, [6, 5, 0, 1, 2, 3, 4, 5, 6]⟩] false)
  (.seq (.region [
    ⟨(some 18), (.fad 1 (.s 7)), none, []⟩,
    ⟨(some 19), (.ldc (.s 18)), none, [0]⟩,
    ⟨(some 20), (.fad 2 (.s 7)), none, []⟩,
    ⟨(some 21), (.ldc (.s 20)), none, [2]⟩,
    ⟨(some 22), (.fad 3 (.s 7)), none, []⟩,
    ⟨(some 23), (.ldc (.s 22)), none, [4]⟩,
    ⟨(some 4), (.mv (.s 19)), none, [1, 0, 1]⟩,
    ⟨(some 5), (.mv (.s 21)), none, [3, 6, 0, 1, 2, 3, 6]⟩,
    ⟨(some 6), (.mv (.s 23)), none, [5, 7, 0, 1, 2, 3, 4, 5, 6, 7]⟩] true)
  .ret)))), false, none, none, false⟩

/-- (*euphroe/chans.Chan).Peek -/
def k90 : Fun := ⟨2, 17, [0, 1, 4, 8], [(.tmp 4)],
  (.seq (.region [
    ⟨(some 4), (.mv (.c .nils)), none, []⟩] false)
  (.seq (.seq (.region [
    ⟨(some 5), (.mv (.s 0)), none, []⟩,
    ⟨(some 6), (.mv (.s 1)), none, []⟩,
    ⟨(some 7), (.call (.c (.fn 106 [])) [(.s 5), (.s 6), (.c (.int .i64 0))]), none, [0, 1]⟩,
    ⟨(some 8), (.bin .neq (.s 7) (.c (.int .i64 0))), none, [2]⟩] false)
  (.cond (.s 8)
   (.seq (.region [
     ⟨(some 4), (.mv (.c .nils)), none, []⟩] false)
   (.pre ⟨0, [(4, (Sh.sl (Sh.int .u8)))], true, [], []⟩ .ret))
   .skip))
  (.seq (.region [
    ⟨(some 9), (.mv (.s 0)), none, []⟩,
    ⟨(some 10), (.mv (.s 1)), none, []⟩,
    ⟨(some 11), (.nilc (.s 9)), none, [0]⟩,
    ⟨(some 12), (.fad 33 (.s 11)), none, [2]⟩,
    ⟨(some 13), (.iaa 2 4 (.s 12) (.s 10)), none, [3, 1]⟩,
    ⟨(some 14), (.fad 0 (.s 13)), none, [4]⟩,
    ⟨(some 15), (.ldc (.s 14)), none, [5]⟩,
    ⟨(some 16), (.call (.c (.fn 108 [])) [(.s 15)]), none, [6]⟩,
    ⟨(some 4), (.mv (.s 16)), none, [7, 7, 0, 1, 2, 3, 4, 5, 6, 7]⟩] false)
  (.pre ⟨0, [(4, (Sh.sl (Sh.int .u8)))], true, [], []⟩ .ret)))), false, none, none, false⟩

/-- (*euphroe/chans.Chan).Len -/
def k91 : Fun := ⟨2, 9, [0, 1, 4], [(.tmp 4)],
  (.seq (.region [
    ⟨(some 4), (.mv (.c (.int .i64 0))), none, []⟩] false)
  (.seq (.region [
    ⟨(some 5), (.mv (.s 0)), none, []⟩,
    ⟨(some 6), (.mv (.s 1)), none, []⟩,
    ⟨(some 7), (.call (.c (.fn 90 [])) [(.s 5), (.s 6)]), none, [0, 1]⟩,
    ⟨(some 8), (.len false (.s 7)), none, [2]⟩,
    ⟨(some 4), (.mv (.s 8)), none, [3, 2, 0, 1, 2, 3]⟩] false)
  .ret)), false, none, none, false⟩

/-- euphroe/chans.Relay -/
def k92 : Fun := ⟨5, 74, [0, 1, 2, 3, 4, 10, 11, 12, 13, 14, 15, 24, 56, 66], [(.tmp 10), (.tmp 11)],
  (.seq (.region [
    ⟨(some 10), (.mv (.c (.int .i64 0))), none, []⟩,
    ⟨(some 11), (.mv (.c (.int .i64 0))), none, [0]⟩] false)
  (.seq (.block 0
   (.seq (.region [
     ⟨(some 16), (.mv (.s 0)), none, []⟩,
     ⟨(some 17), (.call (.c (.fn 110 [])) [(.s 16)]), none, [0]⟩,
     ⟨(some 18), (.un .not (.s 17)), none, [1]⟩,
     ⟨(some 19), (.mv (.s 18)), none, [2, 1]⟩,
     ⟨(some 20), (.mv (.s 2)), (some (19, false)), [3]⟩,
     ⟨(some 21), (.call (.c (.fn 110 [])) [(.s 20)]), (some (19, false)), [4, 3, 3]⟩,
     ⟨(some 22), (.un .not (.s 21)), (some (19, false)), [5, 3]⟩,
     ⟨(some 23), (.pick (.s 19) (.c (.bool true)) (.s 22)), none, [3, 6]⟩,
     ⟨(some 15), (.mv (.s 23)), none, [7, 5]⟩] false)
   (.cond (.s 15)
    (.seq (.region [
      ⟨(some 10), (.mv (.c (.int .i64 0))), none, []⟩,
      ⟨(some 11), (.mv (.c (.int .i64 2))), none, [0, 0]⟩] false)
    (.pre ⟨0, [(2, (Sh.st (Sh.pr Sh.bool (Sh.pr (Sh.int .u8) (Sh.pr (Sh.int .u8) (Sh.pr (Sh.int .u8) (Sh.pr (Sh.int .u8) (Sh.pr (Sh.int .u8) (Sh.pr (Sh.int .u8) (Sh.pr (Sh.int .u8) (Sh.pr (Sh.int .u8) (Sh.pr (Sh.int .u8) (Sh.pr (Sh.int .u8) (Sh.pr (Sh.int .u8) (Sh.pr (Sh.int .u8) (Sh.pr (Sh.int .u8) (Sh.pr (Sh.int .u8) (Sh.pr (Sh.int .u8) (Sh.pr (Sh.int .u8) (Sh.pr (Sh.int .u8) (Sh.pr (Sh.int .u8) (Sh.pr (Sh.int .u8) (Sh.pr (Sh.int .u8) (Sh.pr (Sh.int .u8) (Sh.pr (Sh.int .u8) (Sh.pr (Sh.int .u8) (Sh.pr (Sh.int .u8) (Sh.pr (Sh.int .u8) (Sh.pr (Sh.int .u8) (Sh.pr (Sh.int .u8) (Sh.pr (Sh.int .u8) (Sh.pr (Sh.int .u8) (Sh.pr (Sh.int .u8) (Sh.pr (Sh.int .u8) (Sh.pr (Sh.int .u8) (Sh.pr (Sh.sl (Sh.int .u8)) (Sh.pr (Sh.int .i64) (Sh.pr (Sh.int .i64) (Sh.pr (Sh.int .i64) (Sh.pr (Sh.sl (Sh.int .u8)) (Sh.pr (Sh.int .i64) (Sh.pr (Sh.int .i64) (Sh.pr (Sh.int .i64) Sh.bool)))))))))))))))))))))))))))))))))))))))))))], true, [], []⟩ .ret))
    (.seq (.region [
      ⟨(some 25), (.mv (.s 1)), none, []⟩,
      ⟨(some 26), (.call (.c (.fn 111 [])) [(.s 25)]), none, [0]⟩,
      ⟨(some 27), (.un .not (.s 26)), none, [1]⟩,
      ⟨(some 28), (.mv (.s 27)), none, [2, 1]⟩,
      ⟨(some 29), (.mv (.s 3)), (some (28, false)), [3]⟩,
      ⟨(some 30), (.call (.c (.fn 111 [])) [(.s 29)]), (some (28, false)), [4, 3, 3]⟩,
      ⟨(some 31), (.un .not (.s 30)), (some (28, false)), [5, 3]⟩,
      ⟨(some 32), (.pick (.s 28) (.c (.bool true)) (.s 31)), none, [3, 6]⟩,
      ⟨(some 33), (.mv (.s 32)), none, [7, 5]⟩,
      ⟨(some 34), (.mv (.s 4)), (some (33, false)), [8]⟩,
      ⟨(some 35), (.bin .lss (.s 34) (.c (.int .i64 0))), (some (33, false)), [9, 8]⟩,
      ⟨(some 36), (.pick (.s 33) (.c (.bool true)) (.s 35)), none, [8, 10]⟩,
      ⟨(some 37), (.mv (.s 36)), none, [11, 8]⟩,
      ⟨(some 38), (.mv (.s 0)), (some (37, false)), [12]⟩,
      ⟨(some 39), (.mv (.s 2)), (some (37, false)), [12]⟩,
      ⟨(some 40), (.eqn .p false (.s 38) (.s 39)), (some (37, false)), [13, 14, 12]⟩,
      ⟨(some 41), (.mv (.s 40)), (some (37, false)), [15, 12, 12]⟩,
      ⟨(some 42), (.mv (.s 1)), (some (41, true)), [16]⟩,
      ⟨(some 43), (.mv (.s 3)), (some (41, true)), [16]⟩,
      ⟨(some 44), (.bin .eql (.s 42) (.s 43)), (some (41, true)), [17, 18, 16]⟩,
      ⟨(some 45), (.pick (.s 41) (.s 44) (.c (.bool false))), (some (37, false)), [16, 19, 12]⟩,
      ⟨(some 46), (.pick (.s 37) (.c (.bool true)) (.s 45)), none, [12, 20]⟩,
      ⟨(some 24), (.mv (.s 46)), none, [21, 16]⟩] false)
    (.cond (.s 24)
     (.seq (.region [
       ⟨(some 10), (.mv (.c (.int .i64 0))), none, []⟩,
       ⟨(some 11), (.mv (.c (.int .i64 1))), none, [0, 0]⟩] false)
     (.pre ⟨0, [(2, (Sh.st (Sh.pr Sh.bool (Sh.pr (Sh.int .u8) (Sh.pr (Sh.int .u8) (Sh.pr (Sh.int .u8) (Sh.pr (Sh.int .u8) (Sh.pr (Sh.int .u8) (Sh.pr (Sh.int .u8) (Sh.pr (Sh.int .u8) (Sh.pr (Sh.int .u8) (Sh.pr (Sh.int .u8) (Sh.pr (Sh.int .u8) (Sh.pr (Sh.int .u8) (Sh.pr (Sh.int .u8) (Sh.pr (Sh.int .u8) (Sh.pr (Sh.int .u8) (Sh.pr (Sh.int .u8) (Sh.pr (Sh.int .u8) (Sh.pr (Sh.int .u8) (Sh.pr (Sh.int .u8) (Sh.pr (Sh.int .u8) (Sh.pr (Sh.int .u8) (Sh.pr (Sh.int .u8) (Sh.pr (Sh.int .u8) (Sh.pr (Sh.int .u8) (Sh.pr (Sh.int .u8) (Sh.pr (Sh.int .u8) (Sh.pr (Sh.int .u8) (Sh.pr (Sh.int .u8) (Sh.pr (Sh.int .u8) (Sh.pr (Sh.int .u8) (Sh.pr (Sh.int .u8) (Sh.pr (Sh.int .u8) (Sh.pr (Sh.int .u8) (Sh.pr (Sh.sl (Sh.int .u8)) (Sh.pr (Sh.int .i64) (Sh.pr (Sh.int .i64) (Sh.pr (Sh.int .i64) (Sh.pr (Sh.sl (Sh.int .u8)) (Sh.pr (Sh.int .i64) (Sh.pr (Sh.int .i64) (Sh.pr (Sh.int .i64) Sh.bool)))))))))))))))))))))))))))))))))))))))))))], true, [], []⟩ .ret))
     .skip)))))
  (.seq (.seq (.region [
    ⟨(some 47), (.mv (.s 2)), none, []⟩,
    ⟨(some 48), (.mv (.s 3)), none, []⟩,
    ⟨(some 49), (.mv (.s 4)), none, []⟩,
    ⟨(some 50), (.mv (.s 0)), none, []⟩,
    ⟨(some 51), (.mv (.s 1)), none, []⟩,
    ⟨(some 52), (.call (.c (.fn 91 [])) [(.s 50), (.s 51)]), none, [3, 4]⟩,
    ⟨(some 53), (.mnx false [(.s 49), (.s 52)]), none, [2, 5]⟩,
    ⟨(some 54), (.call (.c (.fn 107 [])) [(.s 47), (.s 48), (.s 53)]), none, [0, 1, 6, 5]⟩,
    ⟨(some 12), (.mv (.s 54)), none, [7, 7, 0, 1, 2, 3, 4, 5, 6, 7]⟩] false)
  (.seq (.region [
    ⟨(some 55), (.mv (.s 12)), none, []⟩,
    ⟨(some 56), (.bin .neq (.s 55) (.c (.int .i64 0))), none, [0]⟩] false)
  (.cond (.s 56)
   (.seq (.region [
     ⟨(some 57), (.mv (.s 12)), none, []⟩,
     ⟨(some 10), (.mv (.c (.int .i64 0))), none, []⟩,
     ⟨(some 11), (.mv (.s 57)), none, [0, 1, 0, 1]⟩] false)
   (.pre ⟨0, [(2, (Sh.st (Sh.pr Sh.bool (Sh.pr (Sh.int .u8) (Sh.pr (Sh.int .u8) (Sh.pr (Sh.int .u8) (Sh.pr (Sh.int .u8) (Sh.pr (Sh.int .u8) (Sh.pr (Sh.int .u8) (Sh.pr (Sh.int .u8) (Sh.pr (Sh.int .u8) (Sh.pr (Sh.int .u8) (Sh.pr (Sh.int .u8) (Sh.pr (Sh.int .u8) (Sh.pr (Sh.int .u8) (Sh.pr (Sh.int .u8) (Sh.pr (Sh.int .u8) (Sh.pr (Sh.int .u8) (Sh.pr (Sh.int .u8) (Sh.pr (Sh.int .u8) (Sh.pr (Sh.int .u8) (Sh.pr (Sh.int .u8) (Sh.pr (Sh.int .u8) (Sh.pr (Sh.int .u8) (Sh.pr (Sh.int .u8) (Sh.pr (Sh.int .u8) (Sh.pr (Sh.int .u8) (Sh.pr (Sh.int .u8) (Sh.pr (Sh.int .u8) (Sh.pr (Sh.int .u8) (Sh.pr (Sh.int .u8) (Sh.pr (Sh.int .u8) (Sh.pr (Sh.int .u8) (Sh.pr (Sh.int .u8) (Sh.pr (Sh.int .u8) (Sh.pr (Sh.sl (Sh.int .u8)) (Sh.pr (Sh.int .i64) (Sh.pr (Sh.int .i64) (Sh.pr (Sh.int .i64) (Sh.pr (Sh.sl (Sh.int .u8)) (Sh.pr (Sh.int .i64) (Sh.pr (Sh.int .i64) (Sh.pr (Sh.int .i64) Sh.bool)))))))))))))))))))))))))))))))))))))))))))], true, [], []⟩ .ret))
   .skip)))
  (.seq (.region [
    ⟨(some 59), (.mv (.s 0)), none, []⟩,
    ⟨(some 60), (.mv (.s 1)), none, []⟩,
    ⟨(some 61), (.mv (.s 4)), none, []⟩,
    ⟨(some 62), (.call (.c (.fn 88 [])) [(.s 59), (.s 60), (.s 61)]), none, [0, 1, 2]⟩,
    ⟨(some 58), (.mv (.s 62)), none, [3]⟩,
    ⟨(some 63), (.ext (.s 58) 0), none, [4]⟩,
    ⟨(some 64), (.ext (.s 58) 1), none, [4]⟩,
    ⟨(some 13), (.mv (.s 63)), none, [5, 3, 0, 1, 2, 3, 4, 5]⟩,
    ⟨(some 14), (.mv (.s 64)), none, [6, 7, 0, 1, 2, 3, 4, 5, 6, 7]⟩] false)
  (.seq (.seq (.region [
    ⟨(some 65), (.mv (.s 14)), none, []⟩,
    ⟨(some 66), (.bin .neq (.s 65) (.c (.int .i64 0))), none, [0]⟩] false)
  (.cond (.s 66)
   (.seq (.region [
     ⟨(some 67), (.mv (.s 14)), none, []⟩,
     ⟨(some 10), (.mv (.c (.int .i64 0))), none, []⟩,
     ⟨(some 11), (.mv (.s 67)), none, [0, 1, 0, 1]⟩] false)
   (.pre ⟨0, [(2, (Sh.st (Sh.pr Sh.bool (Sh.pr (Sh.int .u8) (Sh.pr (Sh.int .u8) (Sh.pr (Sh.int .u8) (Sh.pr (Sh.int .u8) (Sh.pr (Sh.int .u8) (Sh.pr (Sh.int .u8) (Sh.pr (Sh.int .u8) (Sh.pr (Sh.int .u8) (Sh.pr (Sh.int .u8) (Sh.pr (Sh.int .u8) (Sh.pr (Sh.int .u8) (Sh.pr (Sh.int .u8) (Sh.pr (Sh.int .u8) (Sh.pr (Sh.int .u8) (Sh.pr (Sh.int .u8) (Sh.pr (Sh.int .u8) (Sh.pr (Sh.int .u8) (Sh.pr (Sh.int .u8) (Sh.pr (Sh.int .u8) (Sh.pr (Sh.int .u8) (Sh.pr (Sh.int .u8) (Sh.pr (Sh.int .u8) (Sh.pr (Sh.int .u8) (Sh.pr (Sh.int .u8) (Sh.pr (Sh.int .u8) (Sh.pr (Sh.int .u8) (Sh.pr (Sh.int .u8) (Sh.pr (Sh.int .u8) (Sh.pr (Sh.int .u8) (Sh.pr (Sh.int .u8) (Sh.pr (Sh.int .u8) (Sh.pr (Sh.int .u8) (Sh.pr (Sh.sl (Sh.int .u8)) (Sh.pr (Sh.int .i64) (Sh.pr (Sh.int .i64) (Sh.pr (Sh.int .i64) (Sh.pr (Sh.sl (Sh.int .u8)) (Sh.pr (Sh.int .i64) (Sh.pr (Sh.int .i64) (Sh.pr (Sh.int .i64) Sh.bool)))))))))))))))))))))))))))))))))))))))))))], true, [], []⟩ .ret))
   .skip))
  (.seq (.region [
    ⟨(some 68), (.mv (.s 13)), none, []⟩,
    ⟨(some 69), (.len false (.s 68)), none, [0]⟩,
    ⟨(some 70), (.mv (.s 2)), none, []⟩,
    ⟨(some 71), (.mv (.s 3)), none, []⟩,
    ⟨(some 72), (.mv (.s 13)), none, []⟩,
    ⟨(some 73), (.call (.c (.fn 86 [])) [(.s 70), (.s 71), (.s 72)]), none, [2, 3, 4]⟩,
    ⟨(some 10), (.mv (.s 69)), none, [1, 5, 0, 1]⟩,
    ⟨(some 11), (.mv (.s 73)), none, [5, 6, 0, 1, 2, 3, 4, 5, 6]⟩] false)
  (.pre ⟨0, [(2, (Sh.st (Sh.pr Sh.bool (Sh.pr (Sh.int .u8) (Sh.pr (Sh.int .u8) (Sh.pr (Sh.int .u8) (Sh.pr (Sh.int .u8) (Sh.pr (Sh.int .u8) (Sh.pr (Sh.int .u8) (Sh.pr (Sh.int .u8) (Sh.pr (Sh.int .u8) (Sh.pr (Sh.int .u8) (Sh.pr (Sh.int .u8) (Sh.pr (Sh.int .u8) (Sh.pr (Sh.int .u8) (Sh.pr (Sh.int .u8) (Sh.pr (Sh.int .u8) (Sh.pr (Sh.int .u8) (Sh.pr (Sh.int .u8) (Sh.pr (Sh.int .u8) (Sh.pr (Sh.int .u8) (Sh.pr (Sh.int .u8) (Sh.pr (Sh.int .u8) (Sh.pr (Sh.int .u8) (Sh.pr (Sh.int .u8) (Sh.pr (Sh.int .u8) (Sh.pr (Sh.int .u8) (Sh.pr (Sh.int .u8) (Sh.pr (Sh.int .u8) (Sh.pr (Sh.int .u8) (Sh.pr (Sh.int .u8) (Sh.pr (Sh.int .u8) (Sh.pr (Sh.int .u8) (Sh.pr (Sh.int .u8) (Sh.pr (Sh.int .u8) (Sh.pr (Sh.sl (Sh.int .u8)) (Sh.pr (Sh.int .i64) (Sh.pr (Sh.int .i64) (Sh.pr (Sh.int .i64) (Sh.pr (Sh.sl (Sh.int .u8)) (Sh.pr (Sh.int .i64) (Sh.pr (Sh.int .i64) (Sh.pr (Sh.int .i64) Sh.bool)))))))))))))))))))))))))))))))))))))))))))], true, [], []⟩ .ret))))))), false, none, none, false⟩

/-- (*euphroe/chans.Chan).Shut -/
def k97 : Fun := ⟨1, 7, [0, 3], [],
  (.seq (.region [
    ⟨(some 2), (.mv (.s 0)), none, []⟩,
    ⟨(some 3), (.call (.c (.fn 110 [])) [(.s 2)]), none, [0]⟩] false)
  (.cond (.s 3)
   (.region [
     ⟨(some 4), (.mv (.s 0)), none, []⟩,
     ⟨(some 5), (.nilc (.s 4)), none, [0, 0]⟩,
     ⟨(some 6), (.fad 41 (.s 5)), none, [1, 0]⟩,
     ⟨none, (.stc 1 (.s 6) (.c (.bool true))), none, [2, 0]⟩] false)
   .skip)), false, none, none, false⟩

/-- (*euphroe/chans.Chan).Open -/
def k98 : Fun := ⟨1, 12, [0, 2], [(.tmp 2)],
  (.seq (.region [
    ⟨(some 2), (.mv (.c (.bool false))), none, []⟩] false)
  (.seq (.region [
    ⟨(some 3), (.mv (.s 0)), none, []⟩,
    ⟨(some 4), (.call (.c (.fn 110 [])) [(.s 3)]), none, [0]⟩,
    ⟨(some 5), (.mv (.s 4)), none, [1, 1]⟩,
    ⟨(some 6), (.mv (.s 0)), (some (5, true)), [2]⟩,
    ⟨(some 7), (.nilc (.s 6)), (some (5, true)), [3, 2]⟩,
    ⟨(some 8), (.fad 41 (.s 7)), (some (5, true)), [4, 2]⟩,
    ⟨(some 9), (.ldc (.s 8)), (some (5, true)), [5, 2]⟩,
    ⟨(some 10), (.un .not (.s 9)), (some (5, true)), [6, 2]⟩,
    ⟨(some 11), (.pick (.s 5) (.s 10) (.c (.bool false))), none, [2, 7]⟩,
    ⟨(some 2), (.mv (.s 11)), none, [8, 2, 0, 1, 2, 3, 4, 5, 6, 7, 8]⟩] false)
  .ret)), false, none, none, true⟩

/-- (*euphroe/chans.Chan).Hash -/
def k99 : Fun := ⟨1, 11, [0, 2, 5], [(.cell 2 32 true (some .u8))],
  (.seq (.region [
    ⟨(some 2), (.new (.ints .u8 [0, 0, 0, 0, 0, 0, 0, 0, 0, 0, 0, 0, 0, 0, 0, 0, 0, 0, 0, 0, 0, 0, 0, 0, 0, 0, 0, 0, 0, 0, 0, 0])), none, []⟩] false)
  (.seq (.seq (.region [
    ⟨(some 3), (.mv (.s 0)), none, []⟩,
    ⟨(some 4), (.call (.c (.fn 110 [])) [(.s 3)]), none, [0]⟩,
    ⟨(some 5), (.un .not (.s 4)), none, [1]⟩] false)
  (.cond (.s 5)
   (.seq (.region [
     ⟨(some 6), (.build (.ints .u8 [0, 0, 0, 0, 0, 0, 0, 0, 0, 0, 0, 0, 0, 0, 0, 0, 0, 0, 0, 0, 0, 0, 0, 0, 0, 0, 0, 0, 0, 0, 0, 0]) []), none, []⟩,
     ⟨none, (.stc 32 (.s 2) (.s 6)), none, [0, 0]⟩] false)
   .ret)
   .skip))
  (.seq (.region [
    ⟨(some 7), (.mv (.s 0)), none, []⟩,
    ⟨(some 8), (.nilc (.s 7)), none, [0]⟩,
    ⟨(some 9), (.fad 1 (.s 8)), none, [1]⟩,
    ⟨(some 10), (.lda 32 (some .u8) (.s 9)), none, [2]⟩,
    ⟨none, (.stc 32 (.s 2) (.s 10)), none, [3, 0, 1, 2, 3]⟩] false)
  .ret))), false, none, none, false⟩

/-- (*euphroe/chans.Chan).may -/
def k106 : Fun := ⟨3, 19, [0, 1, 2, 6, 7, 11], [(.tmp 6)],
  (.seq (.region [
    ⟨(some 6), (.mv (.c (.int .i64 0))), none, []⟩] false)
  (.seq (.block 0
   (.seq (.region [
     ⟨(some 8), (.mv (.s 0)), none, []⟩,
     ⟨(some 9), (.call (.c (.fn 110 [])) [(.s 8)]), none, [0]⟩,
     ⟨(some 10), (.un .not (.s 9)), none, [1]⟩,
     ⟨(some 7), (.mv (.s 10)), none, [2, 1]⟩] false)
   (.cond (.s 7)
    (.seq (.region [
      ⟨(some 6), (.mv (.c (.int .i64 2))), none, []⟩] false)
    .ret)
    (.seq (.region [
      ⟨(some 12), (.mv (.s 1)), none, []⟩,
      ⟨(some 13), (.call (.c (.fn 111 [])) [(.s 12)]), none, [0]⟩,
      ⟨(some 14), (.un .not (.s 13)), none, [1]⟩,
      ⟨(some 15), (.mv (.s 14)), none, [2, 1]⟩,
      ⟨(some 16), (.mv (.s 2)), (some (15, false)), [3]⟩,
      ⟨(some 17), (.bin .lss (.s 16) (.c (.int .i64 0))), (some (15, false)), [4, 3]⟩,
      ⟨(some 18), (.pick (.s 15) (.c (.bool true)) (.s 17)), none, [3, 5]⟩,
      ⟨(some 11), (.mv (.s 18)), none, [6, 3]⟩] false)
    (.cond (.s 11)
     (.seq (.region [
       ⟨(some 6), (.mv (.c (.int .i64 1))), none, []⟩] false)
     .ret)
     .skip)))))
  (.seq (.region [
    ⟨(some 6), (.mv (.c (.int .i64 0))), none, []⟩] false)
  .ret))), false, none, none, true⟩

/-- (*euphroe/chans.Chan).holds -/
def k107 : Fun := ⟨3, 24, [0, 1, 2, 6, 7, 12], [(.tmp 6)],
  (.seq (.region [
    ⟨(some 6), (.mv (.c (.int .i64 0))), none, []⟩] false)
  (.seq (.block 0
   (.seq (.region [
     ⟨(some 8), (.mv (.s 0)), none, []⟩,
     ⟨(some 9), (.nilc (.s 8)), none, [0]⟩,
     ⟨(some 10), (.fad 41 (.s 9)), none, [1]⟩,
     ⟨(some 11), (.ldc (.s 10)), none, [2]⟩,
     ⟨(some 7), (.mv (.s 11)), none, [3]⟩] false)
   (.cond (.s 7)
    (.seq (.region [
      ⟨(some 6), (.mv (.c (.int .i64 11))), none, []⟩] false)
    .ret)
    (.seq (.region [
      ⟨(some 13), (.mv (.s 0)), none, []⟩,
      ⟨(some 14), (.mv (.s 1)), none, []⟩,
      ⟨(some 15), (.nilc (.s 13)), none, [0]⟩,
      ⟨(some 16), (.fad 33 (.s 15)), none, [2]⟩,
      ⟨(some 17), (.iaa 2 4 (.s 16) (.s 14)), none, [3, 1]⟩,
      ⟨(some 18), (.fad 0 (.s 17)), none, [4]⟩,
      ⟨(some 19), (.ldc (.s 18)), none, [5]⟩,
      ⟨(some 20), (.len false (.s 19)), none, [6]⟩,
      ⟨(some 21), (.mv (.s 2)), none, []⟩,
      ⟨(some 22), (.bin .add (.s 20) (.s 21)), none, [7, 8]⟩,
      ⟨(some 23), (.bin .gtr (.s 22) (.c (.int .i64 65536))), none, [9]⟩,
      ⟨(some 12), (.mv (.s 23)), none, [10]⟩] false)
    (.cond (.s 12)
     (.seq (.region [
       ⟨(some 6), (.mv (.c (.int .i64 12))), none, []⟩] false)
     .ret)
     .skip)))))
  (.seq (.region [
    ⟨(some 6), (.mv (.c (.int .i64 0))), none, []⟩] false)
  .ret))), false, none, none, true⟩

/-- (*euphroe/chans.way).cut -/
def k109 : Fun := ⟨2, 30, [0, 1, 4, 5], [(.tmp 4)],
  (.seq (.region [
    ⟨(some 4), (.mv (.c .nils)), none, []⟩] false)
  (.seq (.region [
    ⟨(some 6), (.mv (.s 1)), none, []⟩,
    ⟨(some 7), (.mv (.s 0)), none, []⟩,
    ⟨(some 8), (.nilc (.s 7)), none, [1]⟩,
    ⟨(some 9), (.fad 0 (.s 8)), none, [2]⟩,
    ⟨(some 10), (.ldc (.s 9)), none, [3]⟩,
    ⟨(some 11), (.len false (.s 10)), none, [4]⟩,
    ⟨(some 12), (.mnx false [(.s 6), (.s 11)]), none, [0, 5]⟩,
    ⟨(some 1), (.mv (.s 12)), none, [6, 0, 1, 2, 3, 4, 5, 6]⟩] false)
  (.seq (.region [
    ⟨(some 13), (.mv (.s 0)), none, []⟩,
    ⟨(some 14), (.nilc (.s 13)), none, [0]⟩,
    ⟨(some 15), (.fad 0 (.s 14)), none, [1]⟩,
    ⟨(some 16), (.ldc (.s 15)), none, [2]⟩,
    ⟨(some 17), (.mv (.s 1)), none, []⟩,
    ⟨(some 18), (.sls 1 (.s 16) none (some (.s 17)) none), none, [3, 4]⟩,
    ⟨(some 19), (.call (.c (.fn 108 [])) [(.s 18)]), none, [5]⟩,
    ⟨(some 5), (.mv (.s 19)), none, [6, 6, 0, 1, 2, 3, 4, 5, 6]⟩] false)
  (.seq (.region [
    ⟨(some 20), (.mv (.s 0)), none, []⟩,
    ⟨(some 21), (.mv (.s 0)), none, []⟩,
    ⟨(some 22), (.nilc (.s 21)), none, [1]⟩,
    ⟨(some 23), (.fad 0 (.s 22)), none, [2]⟩,
    ⟨(some 24), (.ldc (.s 23)), none, [3]⟩,
    ⟨(some 25), (.mv (.s 1)), none, []⟩,
    ⟨(some 26), (.sls 1 (.s 24) (some (.s 25)) none none), none, [4, 5]⟩,
    ⟨(some 27), (.nilc (.s 20)), none, [0, 0, 1, 2, 3, 4, 5, 6]⟩,
    ⟨(some 28), (.fad 0 (.s 27)), none, [7, 0, 1, 2, 3, 4, 5, 6]⟩,
    ⟨none, (.stc 1 (.s 28) (.s 26)), none, [8, 6, 0, 1, 2, 3, 4, 5, 6]⟩] false)
  (.seq (.region [
    ⟨(some 29), (.mv (.s 5)), none, []⟩,
    ⟨(some 4), (.mv (.s 29)), none, [0, 0]⟩] false)
  .ret))))), false, none, none, false⟩

/-- (*euphroe/chans.Chan).ok -/
def k110 : Fun := ⟨1, 11, [0, 2], [(.tmp 2)],
  (.seq (.region [
    ⟨(some 2), (.mv (.c (.bool false))), none, []⟩] false)
  (.seq (.region [
    ⟨(some 3), (.mv (.s 0)), none, []⟩,
    ⟨(some 4), (.eqn .p true (.s 3) (.c .nilp)), none, [0]⟩,
    ⟨(some 5), (.mv (.s 4)), none, [1]⟩,
    ⟨(some 6), (.mv (.s 0)), (some (5, true)), [2]⟩,
    ⟨(some 7), (.nilc (.s 6)), (some (5, true)), [3, 2]⟩,
    ⟨(some 8), (.fad 0 (.s 7)), (some (5, true)), [4, 2]⟩,
    ⟨(some 9), (.ldc (.s 8)), (some (5, true)), [5, 2]⟩,
    ⟨(some 10), (.pick (.s 5) (.s 9) (.c (.bool false))), none, [2, 6]⟩,
    ⟨(some 2), (.mv (.s 10)), none, [7, 2, 0, 1, 2, 3, 4, 5, 6, 7]⟩] false)
  .ret)), false, none, none, true⟩

/-- euphroe/chans.isWay -/
def k111 : Fun := ⟨1, 9, [0, 2], [(.tmp 2)],
  (.seq (.region [
    ⟨(some 2), (.mv (.c (.bool false))), none, []⟩] false)
  (.seq (.region [
    ⟨(some 3), (.mv (.s 0)), none, []⟩,
    ⟨(some 4), (.bin .eql (.s 3) (.c (.int .i64 0))), none, [0]⟩,
    ⟨(some 5), (.mv (.s 4)), none, [1]⟩,
    ⟨(some 6), (.mv (.s 0)), (some (5, false)), [2]⟩,
    ⟨(some 7), (.bin .eql (.s 6) (.c (.int .i64 1))), (some (5, false)), [3, 2]⟩,
    ⟨(some 8), (.pick (.s 5) (.c (.bool true)) (.s 7)), none, [2, 4]⟩,
    ⟨(some 2), (.mv (.s 8)), none, [5, 2, 0, 1, 2, 3, 4, 5]⟩] false)
  .ret)), false, (some [(Sh.int .i64)]), (some Sh.bool), false⟩

def FT : Nat → Option Fun
  | 74 => some k74
  | 84 => some k84
  | 85 => some k85
  | 86 => some k86
  | 87 => some k87
  | 88 => some k88
  | 89 => some k89
  | 90 => some k90
  | 91 => some k91
  | 92 => some k92
  | 97 => some k97
  | 98 => some k98
  | 99 => some k99
  | 106 => some k106
  | 107 => some k107
  | 109 => some k109
  | 110 => some k110
  | 111 => some k111
  | _ => none
end Go.Proofs.YtcnkihdjenjdgaaE
