/- The evaluator's functions. -/
import Derived.Test.YtcnkihdjenjdgaaEvXT
namespace Go.Proofs.YtcnkihdjenjdgaaE
open Go
set_option linter.unusedVariables false
set_option linter.unusedSimpArgs false

/-- euphroe/euphroeref01.Same -/
def k23 : Fun := ⟨2, 26, [0, 1, 4, 5, 10, 14, 25], [(.tmp 4)],
  (.seq (.region [
    ⟨(some 4), (.mv (.c (.bool false))), none, []⟩] false)
  (.seq (.seq (.region [
    ⟨(some 6), (.mv (.s 0)), none, []⟩,
    ⟨(some 7), (.len false (.s 6)), none, [0]⟩,
    ⟨(some 8), (.mv (.s 1)), none, []⟩,
    ⟨(some 9), (.len false (.s 8)), none, [2]⟩,
    ⟨(some 10), (.bin .neq (.s 7) (.s 9)), none, [1, 3]⟩] false)
  (.cond (.s 10)
   (.seq (.region [
     ⟨(some 4), (.mv (.c (.bool false))), none, []⟩] false)
   .ret)
   .skip))
  (.seq (.seq (.region [
    ⟨(some 5), (.mv (.c (.int .i64 0))), none, []⟩] false)
  (.block 0
   (.loop ⟨0, [], false, [0, 1, 5], []⟩
    (.seq (.seq (.region [
      ⟨(some 11), (.mv (.s 5)), none, []⟩,
      ⟨(some 12), (.mv (.s 0)), none, []⟩,
      ⟨(some 13), (.len false (.s 12)), none, [1]⟩,
      ⟨(some 14), (.bin .lss (.s 11) (.s 13)), none, [0, 2]⟩] false)
    (.cond (.s 14)
     .skip
     (.pre ⟨0, [], false, [], []⟩ (.exit 0))))
    (.seq (.block 1
     (.seq (.region [
       ⟨(some 17), (.mv (.s 0)), none, []⟩,
       ⟨(some 18), (.mv (.s 5)), none, []⟩,
       ⟨(some 19), (.iad 1 (.s 17) (.s 18)), none, [0, 1]⟩,
       ⟨(some 20), (.ldc (.s 19)), none, [2]⟩,
       ⟨(some 21), (.mv (.s 1)), none, []⟩,
       ⟨(some 22), (.mv (.s 5)), none, []⟩,
       ⟨(some 23), (.iad 1 (.s 21) (.s 22)), none, [4, 5]⟩,
       ⟨(some 24), (.ldc (.s 23)), none, [6]⟩,
       ⟨(some 25), (.bin .neq (.s 20) (.s 24)), none, [3, 7]⟩] true)
     (.cond (.s 25)
      (.seq (.region [
        ⟨(some 4), (.mv (.c (.bool false))), none, []⟩] false)
      .ret)
      .skip)))
    (.region [
      ⟨(some 15), (.mv (.s 5)), none, []⟩,
      ⟨(some 16), (.bin .add (.s 15) (.c (.int .i64 1))), none, [0]⟩,
      ⟨(some 5), (.mv (.s 16)), none, [1, 0, 1]⟩] false))))))
  (.seq (.region [
    ⟨(some 4), (.mv (.c (.bool true))), none, []⟩] false)
  .ret)))), false, (some [(Sh.sl (Sh.int .u8)), (Sh.sl (Sh.int .u8))]), (some Sh.bool), false⟩

/-- euphroe/euphroelaw38.ChansRelays -/
def k72 : Fun := ⟨3, 111, [0, 1, 2, 6, 7, 8, 9, 10, 11, 12, 13, 14, 15, 23], [(.tmp 6)],
  (.seq (.region [
    ⟨(some 6), (.mv (.c (.bool false))), none, []⟩] false)
  (.seq (.seq (.region [
    ⟨(some 16), (.mv (.s 0)), none, []⟩,
    ⟨(some 17), (.len false (.s 16)), none, [0]⟩,
    ⟨(some 18), (.bin .gtr (.s 17) (.c (.int .i64 500))), none, [1]⟩,
    ⟨(some 19), (.mv (.s 18)), none, [2]⟩,
    ⟨(some 20), (.mv (.s 1)), (some (19, false)), [3]⟩,
    ⟨(some 21), (.len false (.s 20)), (some (19, false)), [4, 3]⟩,
    ⟨(some 22), (.bin .gtr (.s 21) (.c (.int .i64 500))), (some (19, false)), [5, 3]⟩,
    ⟨(some 23), (.pick (.s 19) (.c (.bool true)) (.s 22)), none, [3, 6]⟩] false)
  (.cond (.s 23)
   (.seq (.region [
     ⟨(some 24), (.call (.c (.fn 84 [])) []), none, []⟩,
     ⟨(some 6), (.mv (.s 24)), none, [0, 0, 0]⟩] false)
   .ret)
   .skip))
  (.seq (.region [
    ⟨(some 25), (.build (.ints .u8 [0, 0, 0, 0, 0, 0, 0, 0, 0, 0, 0, 0, 0, 0, 0, 0, 0, 0, 0, 0, 0, 0, 0, 0, 0, 0, 0, 0, 0, 0, 0, 0]) [(0, 1, (.c (.int .u8 1)))]), none, []⟩,
    ⟨(some 26), (.call (.c (.fn 85 [])) [(.s 25)]), none, [0]⟩,
    ⟨(some 27), (.build (.ints .u8 [0, 0, 0, 0, 0, 0, 0, 0, 0, 0, 0, 0, 0, 0, 0, 0, 0, 0, 0, 0, 0, 0, 0, 0, 0, 0, 0, 0, 0, 0, 0, 0]) [(0, 1, (.c (.int .u8 2)))]), none, []⟩,
    ⟨(some 28), (.call (.c (.fn 85 [])) [(.s 27)]), none, [2, 1]⟩,
    ⟨(some 7), (.mv (.s 26)), none, [1, 3, 0, 1]⟩,
    ⟨(some 8), (.mv (.s 28)), none, [3, 4, 0, 1, 2, 3, 4]⟩] false)
  (.seq (.region [
    ⟨(some 29), (.mv (.s 7)), none, []⟩,
    ⟨(some 30), (.mv (.s 0)), none, []⟩,
    ⟨(some 31), (.call (.c (.fn 86 [])) [(.s 29), (.c (.int .i64 0)), (.s 30)]), none, [0, 1]⟩,
    ⟨(some 32), (.mv (.s 8)), none, []⟩,
    ⟨(some 33), (.mv (.s 1)), none, []⟩,
    ⟨(some 34), (.call (.c (.fn 86 [])) [(.s 32), (.c (.int .i64 0)), (.s 33)]), none, [3, 4, 2]⟩,
    ⟨(some 9), (.mv (.s 31)), none, [2, 5, 0, 1, 2]⟩,
    ⟨(some 10), (.mv (.s 34)), none, [5, 6, 0, 1, 2, 3, 4, 5, 6]⟩] false)
  (.seq (.region [
    ⟨(some 35), (.mv (.s 7)), none, []⟩,
    ⟨(some 36), (.mv (.s 1)), none, []⟩,
    ⟨(some 37), (.call (.c (.fn 86 [])) [(.s 35), (.c (.int .i64 1)), (.s 36)]), none, [0, 1]⟩,
    ⟨(some 38), (.mv (.s 8)), none, []⟩,
    ⟨(some 39), (.mv (.s 0)), none, []⟩,
    ⟨(some 40), (.call (.c (.fn 86 [])) [(.s 38), (.c (.int .i64 1)), (.s 39)]), none, [3, 4, 2]⟩,
    ⟨(some 11), (.mv (.s 37)), none, [2, 5, 0, 1, 2]⟩,
    ⟨(some 12), (.mv (.s 40)), none, [5, 6, 0, 1, 2, 3, 4, 5, 6]⟩] false)
  (.seq (.region [
    ⟨(some 42), (.mv (.s 7)), none, []⟩,
    ⟨(some 43), (.mv (.s 8)), none, []⟩,
    ⟨(some 44), (.mv (.s 2)), none, []⟩,
    ⟨(some 45), (.cvi .i64 (.s 44)), none, [2]⟩,
    ⟨(some 46), (.call (.c (.fn 92 [])) [(.s 42), (.c (.int .i64 0)), (.s 43), (.c (.int .i64 0)), (.s 45)]), none, [0, 1, 3]⟩,
    ⟨(some 41), (.mv (.s 46)), none, [4]⟩,
    ⟨(some 47), (.ext (.s 41) 0), none, [5]⟩,
    ⟨(some 48), (.ext (.s 41) 1), none, [5]⟩,
    ⟨(some 13), (.mv (.s 47)), none, [6, 4, 0, 1, 2, 3, 4, 5, 6]⟩,
    ⟨(some 14), (.mv (.s 48)), none, [7, 8, 0, 1, 2, 3, 4, 5, 6, 7, 8]⟩] false)
  (.seq (.region [
    ⟨(some 49), (.mv (.s 2)), none, []⟩,
    ⟨(some 50), (.cvi .i64 (.s 49)), none, [0]⟩,
    ⟨(some 51), (.mv (.s 0)), none, []⟩,
    ⟨(some 52), (.len false (.s 51)), none, [2]⟩,
    ⟨(some 53), (.mnx false [(.s 50), (.s 52)]), none, [1, 3]⟩,
    ⟨(some 15), (.mv (.s 53)), none, [4, 0, 1, 2, 3, 4]⟩] false)
  (.seq (.region [
    ⟨(some 54), (.mv (.s 9)), none, []⟩,
    ⟨(some 55), (.bin .eql (.s 54) (.c (.int .i64 0))), none, [0]⟩,
    ⟨(some 56), (.mv (.s 55)), none, [1]⟩,
    ⟨(some 57), (.mv (.s 10)), (some (56, true)), [2]⟩,
    ⟨(some 58), (.bin .eql (.s 57) (.c (.int .i64 0))), (some (56, true)), [3, 2]⟩,
    ⟨(some 59), (.pick (.s 56) (.s 58) (.c (.bool false))), none, [2, 4]⟩,
    ⟨(some 60), (.mv (.s 59)), none, [5, 2]⟩,
    ⟨(some 61), (.mv (.s 11)), (some (60, true)), [6]⟩,
    ⟨(some 62), (.bin .eql (.s 61) (.c (.int .i64 0))), (some (60, true)), [7, 6]⟩,
    ⟨(some 63), (.pick (.s 60) (.s 62) (.c (.bool false))), none, [6, 8]⟩,
    ⟨(some 64), (.mv (.s 63)), none, [9, 6]⟩,
    ⟨(some 65), (.mv (.s 12)), (some (64, true)), [10]⟩,
    ⟨(some 66), (.bin .eql (.s 65) (.c (.int .i64 0))), (some (64, true)), [11, 10]⟩,
    ⟨(some 67), (.pick (.s 64) (.s 66) (.c (.bool false))), none, [10, 12]⟩,
    ⟨(some 68), (.mv (.s 67)), none, [13, 10]⟩,
    ⟨(some 69), (.mv (.s 14)), (some (68, true)), [14]⟩,
    ⟨(some 70), (.bin .eql (.s 69) (.c (.int .i64 0))), (some (68, true)), [15, 14]⟩,
    ⟨(some 71), (.pick (.s 68) (.s 70) (.c (.bool false))), none, [14, 16]⟩,
    ⟨(some 72), (.mv (.s 71)), none, [17, 14]⟩,
    ⟨(some 73), (.mv (.s 13)), (some (72, true)), [18]⟩,
    ⟨(some 74), (.mv (.s 15)), (some (72, true)), [18]⟩,
    ⟨(some 75), (.bin .eql (.s 73) (.s 74)), (some (72, true)), [19, 20, 18]⟩,
    ⟨(some 76), (.pick (.s 72) (.s 75) (.c (.bool false))), none, [18, 21]⟩,
    ⟨(some 77), (.mv (.s 76)), none, [22, 18]⟩,
    ⟨(some 78), (.mv (.s 7)), (some (77, true)), [23]⟩,
    ⟨(some 79), (.call (.c (.fn 90 [])) [(.s 78), (.c (.int .i64 0))]), (some (77, true)), [24, 23, 23]⟩,
    ⟨(some 80), (.mv (.s 0)), (some (77, true)), [23]⟩,
    ⟨(some 81), (.mv (.s 15)), (some (77, true)), [23]⟩,
    ⟨(some 82), (.sls 1 (.s 80) (some (.s 81)) none none), (some (77, true)), [26, 27, 23]⟩,
    ⟨(some 83), (.call (.c (.fn 23 [])) [(.s 79), (.s 82)]), (some (77, true)), [25, 28, 25, 23]⟩,
    ⟨(some 84), (.pick (.s 77) (.s 83) (.c (.bool false))), none, [23, 29]⟩,
    ⟨(some 85), (.mv (.s 84)), none, [30, 29]⟩,
    ⟨(some 86), (.mv (.s 8)), (some (85, true)), [31]⟩,
    ⟨(some 87), (.call (.c (.fn 90 [])) [(.s 86), (.c (.int .i64 0))]), (some (85, true)), [32, 31, 31]⟩,
    ⟨(some 88), (.mv (.s 1)), (some (85, true)), [31]⟩,
    ⟨(some 89), (.app 1 1 (.c .nils) (.s 88)), (some (85, true)), [34, 33, 31]⟩,
    ⟨(some 90), (.mv (.s 0)), (some (85, true)), [31]⟩,
    ⟨(some 91), (.mv (.s 15)), (some (85, true)), [31]⟩,
    ⟨(some 92), (.sls 1 (.s 90) none (some (.s 91)) none), (some (85, true)), [36, 37, 31]⟩,
    ⟨(some 93), (.app 1 1 (.s 89) (.s 92)), (some (85, true)), [35, 38, 35, 31]⟩,
    ⟨(some 94), (.call (.c (.fn 23 [])) [(.s 87), (.s 93)]), (some (85, true)), [33, 39, 39, 31]⟩,
    ⟨(some 95), (.pick (.s 85) (.s 94) (.c (.bool false))), none, [31, 40]⟩,
    ⟨(some 96), (.mv (.s 95)), none, [41, 40]⟩,
    ⟨(some 97), (.mv (.s 7)), (some (96, true)), [42]⟩,
    ⟨(some 98), (.call (.c (.fn 90 [])) [(.s 97), (.c (.int .i64 1))]), (some (96, true)), [43, 42, 42]⟩,
    ⟨(some 99), (.mv (.s 1)), (some (96, true)), [42]⟩,
    ⟨(some 100), (.call (.c (.fn 23 [])) [(.s 98), (.s 99)]), (some (96, true)), [44, 45, 44, 42]⟩,
    ⟨(some 101), (.pick (.s 96) (.s 100) (.c (.bool false))), none, [42, 46]⟩,
    ⟨(some 102), (.mv (.s 101)), none, [47, 46]⟩,
    ⟨(some 103), (.mv (.s 8)), (some (102, true)), [48]⟩,
    ⟨(some 104), (.call (.c (.fn 90 [])) [(.s 103), (.c (.int .i64 1))]), (some (102, true)), [49, 48, 48]⟩,
    ⟨(some 105), (.mv (.s 0)), (some (102, true)), [48]⟩,
    ⟨(some 106), (.call (.c (.fn 23 [])) [(.s 104), (.s 105)]), (some (102, true)), [50, 51, 50, 48]⟩,
    ⟨(some 107), (.pick (.s 102) (.s 106) (.c (.bool false))), none, [48, 52]⟩,
    ⟨(some 108), (.mv (.s 107)), none, [53, 52]⟩,
    ⟨(some 109), (.call (.c (.fn 84 [])) []), (some (108, true)), [54, 54]⟩,
    ⟨(some 110), (.pick (.s 108) (.s 109) (.c (.bool false))), none, [54, 55]⟩,
    ⟨(some 6), (.mv (.s 110)), none, [56, 55, 0, 1, 2, 3, 4, 5, 6, 7, 8, 9, 10, 11, 12, 13, 14, 15, 16, 17, 18, 19, 20, 21, 22, 23, 24, 25, 26, 27, 28, 29, 30, 31, 32, 33, 34, 35, 36, 37, 38, 39, 40, 41, 42, 43, 44, 45, 46, 47, 48, 49, 50, 51, 52, 53, 54, 55, 56]⟩] true)
  .ret)))))))), false, (some [(Sh.sl (Sh.int .u8)), (Sh.sl (Sh.int .u8)), (Sh.int .u8)]), (some Sh.bool), false⟩

/-- euphroe/euphroelaw38.alive -/
def k84 : Fun := ⟨0, 46, [0, 1, 2, 3, 14], [(.tmp 0)],
  (.seq (.region [
    ⟨(some 0), (.mv (.c (.bool false))), none, []⟩] false)
  (.seq (.region [
    ⟨(some 4), (.build (.ints .u8 [0, 0, 0, 0, 0, 0, 0, 0, 0, 0, 0, 0, 0, 0, 0, 0, 0, 0, 0, 0, 0, 0, 0, 0, 0, 0, 0, 0, 0, 0, 0, 0]) [(0, 1, (.c (.int .u8 7)))]), none, []⟩,
    ⟨(some 5), (.call (.c (.fn 85 [])) [(.s 4)]), none, [0]⟩,
    ⟨(some 1), (.mv (.s 5)), none, [1, 1, 0, 1]⟩] false)
  (.seq (.seq (.region [
    ⟨(some 6), (.mv (.s 1)), none, []⟩,
    ⟨(some 7), (.eqn .p false (.s 6) (.c .nilp)), none, [0]⟩,
    ⟨(some 8), (.mv (.s 7)), none, [1]⟩,
    ⟨(some 9), (.mv (.s 1)), (some (8, false)), [2]⟩,
    ⟨(some 10), (.bsl 3 1 (.ints .u8 [0, 0, 0]) [(0, 1, (.c (.int .u8 97))), (1, 1, (.c (.int .u8 98))), (2, 1, (.c (.int .u8 99)))]), (some (8, false)), [2]⟩,
    ⟨(some 11), (.cvs (.s 10)), (some (8, false)), [4, 2]⟩,
    ⟨(some 12), (.call (.c (.fn 86 [])) [(.s 9), (.c (.int .i64 0)), (.s 11)]), (some (8, false)), [3, 5, 2, 2]⟩,
    ⟨(some 13), (.bin .neq (.s 12) (.c (.int .i64 0))), (some (8, false)), [6, 2]⟩,
    ⟨(some 14), (.pick (.s 8) (.c (.bool true)) (.s 13)), none, [2, 7]⟩] false)
  (.cond (.s 14)
   (.seq (.region [
     ⟨(some 0), (.mv (.c (.bool false))), none, []⟩] false)
   .ret)
   .skip))
  (.seq (.region [
    ⟨(some 16), (.mv (.s 1)), none, []⟩,
    ⟨(some 17), (.call (.c (.fn 88 [])) [(.s 16), (.c (.int .i64 0)), (.c (.int .i64 2))]), none, [0]⟩,
    ⟨(some 15), (.mv (.s 17)), none, [1]⟩,
    ⟨(some 18), (.ext (.s 15) 0), none, [2]⟩,
    ⟨(some 19), (.ext (.s 15) 1), none, [2]⟩,
    ⟨(some 2), (.mv (.s 18)), none, [3, 1, 0, 1, 2, 3]⟩,
    ⟨(some 3), (.mv (.s 19)), none, [4, 5, 0, 1, 2, 3, 4, 5]⟩] false)
  (.seq (.region [
    ⟨(some 20), (.mv (.s 2)), none, []⟩,
    ⟨(some 21), (.b2s (.s 20)), none, [0]⟩,
    ⟨(some 22), (.bin .eql (.s 21) (.c (.str [97, 98]))), none, [1]⟩,
    ⟨(some 23), (.mv (.s 22)), none, [2]⟩,
    ⟨(some 24), (.mv (.s 3)), (some (23, true)), [3]⟩,
    ⟨(some 25), (.bin .eql (.s 24) (.c (.int .i64 0))), (some (23, true)), [4, 3]⟩,
    ⟨(some 26), (.pick (.s 23) (.s 25) (.c (.bool false))), none, [3, 5]⟩,
    ⟨(some 27), (.mv (.s 26)), none, [6, 3]⟩,
    ⟨(some 28), (.mv (.s 1)), (some (27, true)), [7]⟩,
    ⟨(some 29), (.call (.c (.fn 91 [])) [(.s 28), (.c (.int .i64 0))]), (some (27, true)), [8, 7, 7]⟩,
    ⟨(some 30), (.bin .eql (.s 29) (.c (.int .i64 1))), (some (27, true)), [9, 7]⟩,
    ⟨(some 31), (.pick (.s 27) (.s 30) (.c (.bool false))), none, [7, 10]⟩,
    ⟨(some 32), (.mv (.s 31)), none, [11, 9]⟩,
    ⟨(some 33), (.mv (.s 1)), (some (32, true)), [12]⟩,
    ⟨(some 34), (.call (.c (.fn 99 [])) [(.s 33)]), (some (32, true)), [13, 12, 12]⟩,
    ⟨(some 35), (.build (.ints .u8 [0, 0, 0, 0, 0, 0, 0, 0, 0, 0, 0, 0, 0, 0, 0, 0, 0, 0, 0, 0, 0, 0, 0, 0, 0, 0, 0, 0, 0, 0, 0, 0]) [(0, 1, (.c (.int .u8 7)))]), (some (32, true)), [12]⟩,
    ⟨(some 36), (.eqa 32 false (.s 34) (.s 35)), (some (32, true)), [14, 15, 12]⟩,
    ⟨(some 37), (.pick (.s 32) (.s 36) (.c (.bool false))), none, [12, 16]⟩,
    ⟨(some 38), (.mv (.s 37)), none, [17, 14]⟩,
    ⟨(some 39), (.mv (.s 1)), (some (38, true)), [18]⟩,
    ⟨(some 40), (.call (.c (.fn 98 [])) [(.s 39)]), (some (38, true)), [19, 18, 18]⟩,
    ⟨(some 41), (.pick (.s 38) (.s 40) (.c (.bool false))), none, [18, 20]⟩,
    ⟨(some 42), (.mv (.s 41)), none, [21, 20]⟩,
    ⟨(some 43), (.pick (.s 42) (.c (.bool true)) (.c (.bool false))), none, [22]⟩,
    ⟨(some 44), (.mv (.s 43)), none, [23, 22]⟩,
    ⟨(some 45), (.pick (.s 44) (.c (.bool true)) (.c (.bool false))), none, [24]⟩,
    ⟨(some 0), (.mv (.s 45)), none, [25, 24, 0, 1, 2, 3, 4, 5, 6, 7, 8, 9, 10, 11, 12, 13, 14, 15, 16, 17, 18, 19, 20, 21, 22, 23, 24, 25]⟩] false)
  .ret))))), false, (some []), (some Sh.bool), false⟩

/-- euphroe/chans.New -/
def k85 : Fun := ⟨1, 6, [0, 1, 2], [(.tmp 2)],
  (.seq (.region [
    ⟨(some 1), (.box (.s 0)), none, []⟩,
    ⟨(some 2), (.mv (.c .nilp)), none, []⟩] false)
  (.seq (.region [
    ⟨(some 3), (.lda 32 (some .u8) (.s 1)), none, []⟩,
    ⟨(some 4), (.build (.vals [(.bool false), (.int .u8 0), (.int .u8 0), (.int .u8 0), (.int .u8 0), (.int .u8 0), (.int .u8 0), (.int .u8 0), (.int .u8 0), (.int .u8 0), (.int .u8 0), (.int .u8 0), (.int .u8 0), (.int .u8 0), (.int .u8 0), (.int .u8 0), (.int .u8 0), (.int .u8 0), (.int .u8 0), (.int .u8 0), (.int .u8 0), (.int .u8 0), (.int .u8 0), (.int .u8 0), (.int .u8 0), (.int .u8 0), (.int .u8 0), (.int .u8 0), (.int .u8 0), (.int .u8 0), (.int .u8 0), (.int .u8 0), (.int .u8 0), .nils, (.int .i64 0), (.int .i64 0), (.int .i64 0), .nils, (.int .i64 0), (.int .i64 0), (.int .i64 0), (.bool false)]) [(0, 1, (.c (.bool true))), (1, 32, (.s 3))]), none, [0]⟩,
    ⟨(some 5), (.box (.s 4)), none, [1]⟩,
    ⟨(some 2), (.mv (.s 5)), none, [2, 0, 1, 2]⟩] false)
  (.pre ⟨0, [(2, (Sh.st (Sh.pr Sh.bool (Sh.pr (Sh.int .u8) (Sh.pr (Sh.int .u8) (Sh.pr (Sh.int .u8) (Sh.pr (Sh.int .u8) (Sh.pr (Sh.int .u8) (Sh.pr (Sh.int .u8) (Sh.pr (Sh.int .u8) (Sh.pr (Sh.int .u8) (Sh.pr (Sh.int .u8) (Sh.pr (Sh.int .u8) (Sh.pr (Sh.int .u8) (Sh.pr (Sh.int .u8) (Sh.pr (Sh.int .u8) (Sh.pr (Sh.int .u8) (Sh.pr (Sh.int .u8) (Sh.pr (Sh.int .u8) (Sh.pr (Sh.int .u8) (Sh.pr (Sh.int .u8) (Sh.pr (Sh.int .u8) (Sh.pr (Sh.int .u8) (Sh.pr (Sh.int .u8) (Sh.pr (Sh.int .u8) (Sh.pr (Sh.int .u8) (Sh.pr (Sh.int .u8) (Sh.pr (Sh.int .u8) (Sh.pr (Sh.int .u8) (Sh.pr (Sh.int .u8) (Sh.pr (Sh.int .u8) (Sh.pr (Sh.int .u8) (Sh.pr (Sh.int .u8) (Sh.pr (Sh.int .u8) (Sh.pr (Sh.int .u8) (Sh.pr (Sh.sl (Sh.int .u8)) (Sh.pr (Sh.int .i64) (Sh.pr (Sh.int .i64) (Sh.pr (Sh.int .i64) (Sh.pr (Sh.sl (Sh.int .u8)) (Sh.pr (Sh.int .i64) (Sh.pr (Sh.int .i64) (Sh.pr (Sh.int .i64) Sh.bool)))))))))))))))))))))))))))))))))))))))))))], true, [], []⟩ .ret))), false, none, none, false⟩

/-- (*euphroe/chans.Chan).Put -/
def k86 : Fun := ⟨3, 48, [0, 1, 2, 6, 7, 8, 9, 14, 22], [(.tmp 6)],
  (.seq (.region [
    ⟨(some 6), (.mv (.c (.int .i64 0))), none, []⟩] false)
  (.seq (.seq (.region [
    ⟨(some 10), (.mv (.s 0)), none, []⟩,
    ⟨(some 11), (.mv (.s 1)), none, []⟩,
    ⟨(some 12), (.call (.c (.fn 106 [])) [(.s 10), (.s 11), (.c (.int .i64 0))]), none, [0, 1]⟩,
    ⟨(some 7), (.mv (.s 12)), none, [2, 2, 0, 1, 2]⟩] false)
  (.seq (.region [
    ⟨(some 13), (.mv (.s 7)), none, []⟩,
    ⟨(some 14), (.bin .neq (.s 13) (.c (.int .i64 0))), none, [0]⟩] false)
  (.cond (.s 14)
   (.seq (.region [
     ⟨(some 15), (.mv (.s 7)), none, []⟩,
     ⟨(some 6), (.mv (.s 15)), none, [0, 0]⟩] false)
   (.pre ⟨0, [(0, (Sh.st (Sh.pr Sh.bool (Sh.pr (Sh.int .u8) (Sh.pr (Sh.int .u8) (Sh.pr (Sh.int .u8) (Sh.pr (Sh.int .u8) (Sh.pr (Sh.int .u8) (Sh.pr (Sh.int .u8) (Sh.pr (Sh.int .u8) (Sh.pr (Sh.int .u8) (Sh.pr (Sh.int .u8) (Sh.pr (Sh.int .u8) (Sh.pr (Sh.int .u8) (Sh.pr (Sh.int .u8) (Sh.pr (Sh.int .u8) (Sh.pr (Sh.int .u8) (Sh.pr (Sh.int .u8) (Sh.pr (Sh.int .u8) (Sh.pr (Sh.int .u8) (Sh.pr (Sh.int .u8) (Sh.pr (Sh.int .u8) (Sh.pr (Sh.int .u8) (Sh.pr (Sh.int .u8) (Sh.pr (Sh.int .u8) (Sh.pr (Sh.int .u8) (Sh.pr (Sh.int .u8) (Sh.pr (Sh.int .u8) (Sh.pr (Sh.int .u8) (Sh.pr (Sh.int .u8) (Sh.pr (Sh.int .u8) (Sh.pr (Sh.int .u8) (Sh.pr (Sh.int .u8) (Sh.pr (Sh.int .u8) (Sh.pr (Sh.int .u8) (Sh.pr (Sh.sl (Sh.int .u8)) (Sh.pr (Sh.int .i64) (Sh.pr (Sh.int .i64) (Sh.pr (Sh.int .i64) (Sh.pr (Sh.sl (Sh.int .u8)) (Sh.pr (Sh.int .i64) (Sh.pr (Sh.int .i64) (Sh.pr (Sh.int .i64) Sh.bool)))))))))))))))))))))))))))))))))))))))))))], true, [], []⟩ .ret))
   .skip)))
  (.seq (.seq (.region [
    ⟨(some 16), (.mv (.s 0)), none, []⟩,
    ⟨(some 17), (.mv (.s 1)), none, []⟩,
    ⟨(some 18), (.mv (.s 2)), none, []⟩,
    ⟨(some 19), (.len false (.s 18)), none, [2]⟩,
    ⟨(some 20), (.call (.c (.fn 107 [])) [(.s 16), (.s 17), (.s 19)]), none, [0, 1, 3]⟩,
    ⟨(some 8), (.mv (.s 20)), none, [4, 4, 0, 1, 2, 3, 4]⟩] false)
  (.seq (.region [
    ⟨(some 21), (.mv (.s 8)), none, []⟩,
    ⟨(some 22), (.bin .neq (.s 21) (.c (.int .i64 0))), none, [0]⟩] false)
  (.cond (.s 22)
   (.seq (.region [
     ⟨(some 23), (.mv (.s 8)), none, []⟩,
     ⟨(some 6), (.mv (.s 23)), none, [0, 0]⟩] false)
   (.pre ⟨0, [(0, (Sh.st (Sh.pr Sh.bool (Sh.pr (Sh.int .u8) (Sh.pr (Sh.int .u8) (Sh.pr (Sh.int .u8) (Sh.pr (Sh.int .u8) (Sh.pr (Sh.int .u8) (Sh.pr (Sh.int .u8) (Sh.pr (Sh.int .u8) (Sh.pr (Sh.int .u8) (Sh.pr (Sh.int .u8) (Sh.pr (Sh.int .u8) (Sh.pr (Sh.int .u8) (Sh.pr (Sh.int .u8) (Sh.pr (Sh.int .u8) (Sh.pr (Sh.int .u8) (Sh.pr (Sh.int .u8) (Sh.pr (Sh.int .u8) (Sh.pr (Sh.int .u8) (Sh.pr (Sh.int .u8) (Sh.pr (Sh.int .u8) (Sh.pr (Sh.int .u8) (Sh.pr (Sh.int .u8) (Sh.pr (Sh.int .u8) (Sh.pr (Sh.int .u8) (Sh.pr (Sh.int .u8) (Sh.pr (Sh.int .u8) (Sh.pr (Sh.int .u8) (Sh.pr (Sh.int .u8) (Sh.pr (Sh.int .u8) (Sh.pr (Sh.int .u8) (Sh.pr (Sh.int .u8) (Sh.pr (Sh.int .u8) (Sh.pr (Sh.int .u8) (Sh.pr (Sh.sl (Sh.int .u8)) (Sh.pr (Sh.int .i64) (Sh.pr (Sh.int .i64) (Sh.pr (Sh.int .i64) (Sh.pr (Sh.sl (Sh.int .u8)) (Sh.pr (Sh.int .i64) (Sh.pr (Sh.int .i64) (Sh.pr (Sh.int .i64) Sh.bool)))))))))))))))))))))))))))))))))))))))))))], true, [], []⟩ .ret))
   .skip)))
  (.seq (.region [
    ⟨(some 24), (.mv (.s 0)), none, []⟩,
    ⟨(some 25), (.mv (.s 1)), none, []⟩,
    ⟨(some 26), (.nilc (.s 24)), none, [0]⟩,
    ⟨(some 27), (.fad 33 (.s 26)), none, [2]⟩,
    ⟨(some 28), (.iaa 2 4 (.s 27) (.s 25)), none, [3, 1]⟩,
    ⟨(some 9), (.mv (.s 28)), none, [4, 0, 1, 2, 3, 4]⟩] false)
  (.seq (.region [
    ⟨(some 29), (.mv (.s 9)), none, []⟩,
    ⟨(some 30), (.mv (.s 9)), none, []⟩,
    ⟨(some 31), (.nilc (.s 30)), none, [1]⟩,
    ⟨(some 32), (.fad 0 (.s 31)), none, [2]⟩,
    ⟨(some 33), (.ldc (.s 32)), none, [3]⟩,
    ⟨(some 34), (.call (.c (.fn 108 [])) [(.s 33)]), none, [4]⟩,
    ⟨(some 35), (.mv (.s 2)), none, []⟩,
    ⟨(some 36), (.app 1 1 (.s 34) (.s 35)), none, [5, 6, 5]⟩,
    ⟨(some 37), (.nilc (.s 29)), none, [0, 0, 1, 2, 3, 4, 5, 6, 7]⟩,
    ⟨(some 38), (.fad 0 (.s 37)), none, [8, 0, 1, 2, 3, 4, 5, 6, 7]⟩,
    ⟨none, (.stc 1 (.s 38) (.s 36)), none, [9, 7, 7, 0, 1, 2, 3, 4, 5, 6, 7]⟩] false)
  (.seq (.region [
    ⟨(some 39), (.mv (.s 9)), none, []⟩,
    ⟨(some 40), (.nilc (.s 39)), none, [0]⟩,
    ⟨(some 41), (.fad 1 (.s 40)), none, [1]⟩,
    ⟨(some 42), (.ldc (.s 41)), none, [2]⟩,
    ⟨(some 43), (.mv (.s 2)), none, []⟩,
    ⟨(some 44), (.len false (.s 43)), none, [4]⟩,
    ⟨(some 45), (.bin .add (.s 42) (.s 44)), none, [3, 5]⟩,
    ⟨(some 46), (.nilc (.s 39)), none, [0, 0, 1, 2, 3, 4, 5, 6]⟩,
    ⟨(some 47), (.fad 1 (.s 46)), none, [7, 0, 1, 2, 3, 4, 5, 6]⟩,
    ⟨none, (.stc 1 (.s 47) (.s 45)), none, [8, 6, 0, 1, 2, 3, 4, 5, 6]⟩] false)
  (.seq (.region [
    ⟨(some 6), (.mv (.c (.int .i64 0))), none, []⟩] false)
  (.pre ⟨0, [(0, (Sh.st (Sh.pr Sh.bool (Sh.pr (Sh.int .u8) (Sh.pr (Sh.int .u8) (Sh.pr (Sh.int .u8) (Sh.pr (Sh.int .u8) (Sh.pr (Sh.int .u8) (Sh.pr (Sh.int .u8) (Sh.pr (Sh.int .u8) (Sh.pr (Sh.int .u8) (Sh.pr (Sh.int .u8) (Sh.pr (Sh.int .u8) (Sh.pr (Sh.int .u8) (Sh.pr (Sh.int .u8) (Sh.pr (Sh.int .u8) (Sh.pr (Sh.int .u8) (Sh.pr (Sh.int .u8) (Sh.pr (Sh.int .u8) (Sh.pr (Sh.int .u8) (Sh.pr (Sh.int .u8) (Sh.pr (Sh.int .u8) (Sh.pr (Sh.int .u8) (Sh.pr (Sh.int .u8) (Sh.pr (Sh.int .u8) (Sh.pr (Sh.int .u8) (Sh.pr (Sh.int .u8) (Sh.pr (Sh.int .u8) (Sh.pr (Sh.int .u8) (Sh.pr (Sh.int .u8) (Sh.pr (Sh.int .u8) (Sh.pr (Sh.int .u8) (Sh.pr (Sh.int .u8) (Sh.pr (Sh.int .u8) (Sh.pr (Sh.int .u8) (Sh.pr (Sh.sl (Sh.int .u8)) (Sh.pr (Sh.int .i64) (Sh.pr (Sh.int .i64) (Sh.pr (Sh.int .i64) (Sh.pr (Sh.sl (Sh.int .u8)) (Sh.pr (Sh.int .i64) (Sh.pr (Sh.int .i64) (Sh.pr (Sh.int .i64) Sh.bool)))))))))))))))))))))))))))))))))))))))))))], true, [], []⟩ .ret)))))))), false, none, none, false⟩

/-- (*euphroe/chans.Chan).Take -/
def k88 : Fun := ⟨3, 39, [0, 1, 2, 6, 7, 8, 9, 15], [(.tmp 6), (.tmp 7)],
  (.seq (.region [
    ⟨(some 6), (.mv (.c .nils)), none, []⟩,
    ⟨(some 7), (.mv (.c (.int .i64 0))), none, [0]⟩] false)
  (.seq (.seq (.region [
    ⟨(some 10), (.mv (.s 0)), none, []⟩,
    ⟨(some 11), (.mv (.s 1)), none, []⟩,
    ⟨(some 12), (.mv (.s 2)), none, []⟩,
    ⟨(some 13), (.call (.c (.fn 106 [])) [(.s 10), (.s 11), (.s 12)]), none, [0, 1, 2]⟩,
    ⟨(some 8), (.mv (.s 13)), none, [3, 3, 0, 1, 2, 3]⟩] false)
  (.seq (.region [
    ⟨(some 14), (.mv (.s 8)), none, []⟩,
    ⟨(some 15), (.bin .neq (.s 14) (.c (.int .i64 0))), none, [0]⟩] false)
  (.cond (.s 15)
   (.seq (.region [
     ⟨(some 16), (.mv (.s 8)), none, []⟩,
     ⟨(some 6), (.mv (.c .nils)), none, []⟩,
     ⟨(some 7), (.mv (.s 16)), none, [0, 1, 0, 1]⟩] false)
   (.pre ⟨0, [(6, (Sh.sl (Sh.int .u8)))], true, [], []⟩ .ret))
   .skip)))
  (.seq (.region [
    ⟨(some 17), (.mv (.s 0)), none, []⟩,
    ⟨(some 18), (.mv (.s 1)), none, []⟩,
    ⟨(some 19), (.nilc (.s 17)), none, [0]⟩,
    ⟨(some 20), (.fad 33 (.s 19)), none, [2]⟩,
    ⟨(some 21), (.iaa 2 4 (.s 20) (.s 18)), none, [3, 1]⟩,
    ⟨(some 22), (.mv (.s 2)), none, []⟩,
    ⟨(some 23), (.call (.c (.fn 109 [])) [(.s 21), (.s 22)]), none, [4, 5]⟩,
    ⟨(some 9), (.mv (.s 23)), none, [6, 6, 0, 1, 2, 3, 4, 5, 6]⟩] false)
  (.seq (.region [
    ⟨(some 24), (.mv (.s 0)), none, []⟩,
    ⟨(some 25), (.mv (.s 1)), none, []⟩,
    ⟨(some 26), (.nilc (.s 24)), none, [0]⟩,
    ⟨(some 27), (.fad 33 (.s 26)), none, [2]⟩,
    ⟨(some 28), (.iaa 2 4 (.s 27) (.s 25)), none, [3, 1]⟩,
    ⟨(some 29), (.fad 2 (.s 28)), none, [4]⟩,
    ⟨(some 30), (.ldc (.s 29)), none, [5]⟩,
    ⟨(some 31), (.mv (.s 9)), none, []⟩,
    ⟨(some 32), (.len false (.s 31)), none, [7]⟩,
    ⟨(some 33), (.bin .add (.s 30) (.s 32)), none, [6, 8]⟩,
    ⟨(some 34), (.nilc (.s 24)), none, [0]⟩,
    ⟨(some 35), (.fad 33 (.s 34)), none, [10]⟩,
    ⟨(some 36), (.iaa 2 4 (.s 35) (.s 25)), none, [11, 1, 0, 1, 2, 3, 4, 5, 6, 7, 8, 9]⟩,
    ⟨(some 37), (.fad 2 (.s 36)), none, [12, 0, 1, 2, 3, 4, 5, 6, 7, 8, 9]⟩,
    ⟨none, (.stc 1 (.s 37) (.s 33)), none, [13, 9, 0, 1, 2, 3, 4, 5, 6, 7, 8, 9]⟩] true)
  (.seq (.region [
    ⟨(some 38), (.mv (.s 9)), none, []⟩,
    ⟨(some 6), (.mv (.s 38)), none, [0, 0]⟩,
    ⟨(some 7), (.mv (.c (.int .i64 0))), none, [1, 0, 1]⟩] false)
  (.pre ⟨0, [(6, (Sh.sl (Sh.int .u8)))], true, [], []⟩ .ret)))))), false, none, none, false⟩

/-- (*euphroe/chans.Chan).Peek -/
def k90 : Fun := ⟨2, 17, [0, 1, 4, 8], [(.tmp 4)],
  (.seq (.region [
    ⟨(some 4), (.mv (.c .nils)), none, []⟩] false)
  (.seq (.seq (.region [
    ⟨(some 5), (.mv (.s 0)), none, []⟩,
    ⟨(some 6), (.mv (.s 1)), none, []⟩,
    ⟨(some 7), (.call (.c (.fn 106 [])) [(.s 5), (.s 6), (.c (.int .i64 0))]), none, [0, 1]⟩,
    ⟨(some 8), (.bin .neq (.s 7) (.c (.int .i64 0))), none, [2]⟩] false)
  (.cond (.s 8)
   (.seq (.region [
     ⟨(some 4), (.mv (.c .nils)), none, []⟩] false)
   (.pre ⟨0, [(4, (Sh.sl (Sh.int .u8)))], true, [], []⟩ .ret))
   .skip))
  (.seq (.region [
    ⟨(some 9), (.mv (.s 0)), none, []⟩,
    ⟨(some 10), (.mv (.s 1)), none, []⟩,
    ⟨(some 11), (.nilc (.s 9)), none, [0]⟩,
    ⟨(some 12), (.fad 33 (.s 11)), none, [2]⟩,
    ⟨(some 13), (.iaa 2 4 (.s 12) (.s 10)), none, [3, 1]⟩,
    ⟨(some 14), (.fad 0 (.s 13)), none, [4]⟩,
    ⟨(some 15), (.ldc (.s 14)), none, [5]⟩,
    ⟨(some 16), (.call (.c (.fn 108 [])) [(.s 15)]), none, [6]⟩,
    ⟨(some 4), (.mv (.s 16)), none, [7, 7, 0, 1, 2, 3, 4, 5, 6, 7]⟩] false)
  (.pre ⟨0, [(4, (Sh.sl (Sh.int .u8)))], true, [], []⟩ .ret)))), false, none, none, false⟩

/-- (*euphroe/chans.Chan).Len -/
def k91 : Fun := ⟨2, 9, [0, 1, 4], [(.tmp 4)],
  (.seq (.region [
    ⟨(some 4), (.mv (.c (.int .i64 0))), none, []⟩] false)
  (.seq (.region [
    ⟨(some 5), (.mv (.s 0)), none, []⟩,
    ⟨(some 6), (.mv (.s 1)), none, []⟩,
    ⟨(some 7), (.call (.c (.fn 90 [])) [(.s 5), (.s 6)]), none, [0, 1]⟩,
    ⟨(some 8), (.len false (.s 7)), none, [2]⟩,
    ⟨(some 4), (.mv (.s 8)), none, [3, 2, 0, 1, 2, 3]⟩] false)
  .ret)), false, none, none, false⟩

/-- euphroe/chans.Relay -/
def k92 : Fun := ⟨5, 74, [0, 1, 2, 3, 4, 10, 11, 12, 13, 14, 15, 24, 56, 66], [(.tmp 10), (.tmp 11)],
  (.seq (.region [
    ⟨(some 10), (.mv (.c (.int .i64 0))), none, []⟩,
    ⟨(some 11), (.mv (.c (.int .i64 0))), none, [0]⟩] false)
  (.seq (.block 0
   (.seq (.region [
     ⟨(some 16), (.mv (.s 0)), none, []⟩,
     ⟨(some 17), (.call (.c (.fn 110 [])) [(.s 16)]), none, [0]⟩,
     ⟨(some 18), (.un .not (.s 17)), none, [1]⟩,
     ⟨(some 19), (.mv (.s 18)), none, [2, 1]⟩,
     ⟨(some 20), (.mv (.s 2)), (some (19, false)), [3]⟩,
     ⟨(some 21), (.call (.c (.fn 110 [])) [(.s 20)]), (some (19, false)), [4, 3, 3]⟩,
     ⟨(some 22), (.un .not (.s 21)), (some (19, false)), [5, 3]⟩,
     ⟨(some 23), (.pick (.s 19) (.c (.bool true)) (.s 22)), none, [3, 6]⟩,
     ⟨(some 15), (.mv (.s 23)), none, [7, 5]⟩] false)
   (.cond (.s 15)
    (.seq (.region [
      ⟨(some 10), (.mv (.c (.int .i64 0))), none, []⟩,
      ⟨(some 11), (.mv (.c (.int .i64 2))), none, [0, 0]⟩] false)
    (.pre ⟨0, [(2, (Sh.st (Sh.pr Sh.bool (Sh.pr (Sh.int .u8) (Sh.pr (Sh.int .u8) (Sh.pr (Sh.int .u8) (Sh.pr (Sh.int .u8) (Sh.pr (Sh.int .u8) (Sh.pr (Sh.int .u8) (Sh.pr (Sh.int .u8) (Sh.pr (Sh.int .u8) (Sh.pr (Sh.int .u8) (Sh.pr (Sh.int .u8) (Sh.pr (Sh.int .u8) (Sh.pr (Sh.int .u8) (Sh.pr (Sh.int .u8) (Sh.pr (Sh.int .u8) (Sh.pr (Sh.int .u8) (Sh.pr (Sh.int .u8) (Sh.pr (Sh.int .u8) (Sh.pr (Sh.int .u8) (Sh.pr (Sh.int .u8) (Sh.pr (Sh.int .u8) (Sh.pr (Sh.int .u8) (Sh.pr (Sh.int .u8) (Sh.pr (Sh.int .u8) (Sh.pr (Sh.int .u8) (Sh.pr (Sh.int .u8) (Sh.pr (Sh.int .u8) (Sh.pr (Sh.int .u8) (Sh.pr (Sh.int .u8) (Sh.pr (Sh.int .u8) (Sh.pr (Sh.int .u8) (Sh.pr (Sh.int .u8) (Sh.pr (Sh.int .u8) (Sh.pr (Sh.sl (Sh.int .u8)) (Sh.pr (Sh.int .i64) (Sh.pr (Sh.int .i64) (Sh.pr (Sh.int .i64) (Sh.pr (Sh.sl (Sh.int .u8)) (Sh.pr (Sh.int .i64) (Sh.pr (Sh.int .i64) (Sh.pr (Sh.int .i64) Sh.bool)))))))))))))))))))))))))))))))))))))))))))], true, [], []⟩ .ret))
    (.seq (.region [
      ⟨(some 25), (.mv (.s 1)), none, []⟩,
      ⟨(some 26), (.call (.c (.fn 111 [])) [(.s 25)]), none, [0]⟩,
      ⟨(some 27), (.un .not (.s 26)), none, [1]⟩,
      ⟨(some 28), (.mv (.s 27)), none, [2, 1]⟩,
      ⟨(some 29), (.mv (.s 3)), (some (28, false)), [3]⟩,
      ⟨(some 30), (.call (.c (.fn 111 [])) [(.s 29)]), (some (28, false)), [4, 3, 3]⟩,
      ⟨(some 31), (.un .not (.s 30)), (some (28, false)), [5, 3]⟩,
      ⟨(some 32), (.pick (.s 28) (.c (.bool true)) (.s 31)), none, [3, 6]⟩,
      ⟨(some 33), (.mv (.s 32)), none, [7, 5]⟩,
      ⟨(some 34), (.mv (.s 4)), (some (33, false)), [8]⟩,
      ⟨(some 35), (.bin .lss (.s 34) (.c (.int .i64 0))), (some (33, false)), [9, 8]⟩,
      ⟨(some 36), (.pick (.s 33) (.c (.bool true)) (.s 35)), none, [8, 10]⟩,
      ⟨(some 37), (.mv (.s 36)), none, [11, 8]⟩,
      ⟨(some 38), (.mv (.s 0)), (some (37, false)), [12]⟩,
      ⟨(some 39), (.mv (.s 2)), (some (37, false)), [12]⟩,
      ⟨(some 40), (.eqn .p false (.s 38) (.s 39)), (some (37, false)), [13, 14, 12]⟩,
      ⟨(some 41), (.mv (.s 40)), (some (37, false)), [15, 12, 12]⟩,
      ⟨(some 42), (.mv (.s 1)), (some (41, true)), [16]⟩,
      ⟨(some 43), (.mv (.s 3)), (some (41, true)), [16]⟩,
      ⟨(some 44), (.bin .eql (.s 42) (.s 43)), (some (41, true)), [17, 18, 16]⟩,
      ⟨(some 45), (.pick (.s 41) (.s 44) (.c (.bool false))), (some (37, false)), [16, 19, 12]⟩,
      ⟨(some 46), (.pick (.s 37) (.c (.bool true)) (.s 45)), none, [12, 20]⟩,
      ⟨(some 24), (.mv (.s 46)), none, [21, 16]⟩] false)
    (.cond (.s 24)
     (.seq (.region [
       ⟨(some 10), (.mv (.c (.int .i64 0))), none, []⟩,
       ⟨(some 11), (.mv (.c (.int .i64 1))), none, [0, 0]⟩] false)
     (.pre ⟨0, [(2, (Sh.st (Sh.pr Sh.bool (Sh.pr (Sh.int .u8) (Sh.pr (Sh.int .u8) (Sh.pr (Sh.int .u8) (Sh.pr (Sh.int .u8) (Sh.pr (Sh.int .u8) (Sh.pr (Sh.int .u8) (Sh.pr (Sh.int .u8) (Sh.pr (Sh.int .u8) (Sh.pr (Sh.int .u8) (Sh.pr (Sh.int .u8) (Sh.pr (Sh.int .u8) (Sh.pr (Sh.int .u8) (Sh.pr (Sh.int .u8) (Sh.pr (Sh.int .u8) (Sh.pr (Sh.int .u8) (Sh.pr (Sh.int .u8) (Sh.pr (Sh.int .u8) (Sh.pr (Sh.int .u8) (Sh.pr (Sh.int .u8) (Sh.pr (Sh.int .u8) (Sh.pr (Sh.int .u8) (Sh.pr (Sh.int .u8) (Sh.pr (Sh.int .u8) (Sh.pr (Sh.int .u8) (Sh.pr (Sh.int .u8) (Sh.pr (Sh.int .u8) (Sh.pr (Sh.int .u8) (Sh.pr (Sh.int .u8) (Sh.pr (Sh.int .u8) (Sh.pr (Sh.int .u8) (Sh.pr (Sh.int .u8) (Sh.pr (Sh.int .u8) (Sh.pr (Sh.sl (Sh.int .u8)) (Sh.pr (Sh.int .i64) (Sh.pr (Sh.int .i64) (Sh.pr (Sh.int .i64) (Sh.pr (Sh.sl (Sh.int .u8)) (Sh.pr (Sh.int .i64) (Sh.pr (Sh.int .i64) (Sh.pr (Sh.int .i64) Sh.bool)))))))))))))))))))))))))))))))))))))))))))], true, [], []⟩ .ret))
     .skip)))))
  (.seq (.seq (.region [
    ⟨(some 47), (.mv (.s 2)), none, []⟩,
    ⟨(some 48), (.mv (.s 3)), none, []⟩,
    ⟨(some 49), (.mv (.s 4)), none, []⟩,
    ⟨(some 50), (.mv (.s 0)), none, []⟩,
    ⟨(some 51), (.mv (.s 1)), none, []⟩,
    ⟨(some 52), (.call (.c (.fn 91 [])) [(.s 50), (.s 51)]), none, [3, 4]⟩,
    ⟨(some 53), (.mnx false [(.s 49), (.s 52)]), none, [2, 5]⟩,
    ⟨(some 54), (.call (.c (.fn 107 [])) [(.s 47), (.s 48), (.s 53)]), none, [0, 1, 6, 5]⟩,
    ⟨(some 12), (.mv (.s 54)), none, [7, 7, 0, 1, 2, 3, 4, 5, 6, 7]⟩] false)
  (.seq (.region [
    ⟨(some 55), (.mv (.s 12)), none, []⟩,
    ⟨(some 56), (.bin .neq (.s 55) (.c (.int .i64 0))), none, [0]⟩] false)
  (.cond (.s 56)
   (.seq (.region [
     ⟨(some 57), (.mv (.s 12)), none, []⟩,
     ⟨(some 10), (.mv (.c (.int .i64 0))), none, []⟩,
     ⟨(some 11), (.mv (.s 57)), none, [0, 1, 0, 1]⟩] false)
   (.pre ⟨0, [(2, (Sh.st (Sh.pr Sh.bool (Sh.pr (Sh.int .u8) (Sh.pr (Sh.int .u8) (Sh.pr (Sh.int .u8) (Sh.pr (Sh.int .u8) (Sh.pr (Sh.int .u8) (Sh.pr (Sh.int .u8) (Sh.pr (Sh.int .u8) (Sh.pr (Sh.int .u8) (Sh.pr (Sh.int .u8) (Sh.pr (Sh.int .u8) (Sh.pr (Sh.int .u8) (Sh.pr (Sh.int .u8) (Sh.pr (Sh.int .u8) (Sh.pr (Sh.int .u8) (Sh.pr (Sh.int .u8) (Sh.pr (Sh.int .u8) (Sh.pr (Sh.int .u8) (Sh.pr (Sh.int .u8) (Sh.pr (Sh.int .u8) (Sh.pr (Sh.int .u8) (Sh.pr (Sh.int .u8) (Sh.pr (Sh.int .u8) (Sh.pr (Sh.int .u8) (Sh.pr (Sh.int .u8) (Sh.pr (Sh.int .u8) (Sh.pr (Sh.int .u8) (Sh.pr (Sh.int .u8) (Sh.pr (Sh.int .u8) (Sh.pr (Sh.int .u8) (Sh.pr (Sh.int .u8) (Sh.pr (Sh.int .u8) (Sh.pr (Sh.int .u8) (Sh.pr (Sh.sl (Sh.int .u8)) (Sh.pr (Sh.int .i64) (Sh.pr (Sh.int .i64) (Sh.pr (Sh.int .i64) (Sh.pr (Sh.sl (Sh.int .u8)) (Sh.pr (Sh.int .i64) (Sh.pr (Sh.int .i64) (Sh.pr (Sh.int .i64) Sh.bool)))))))))))))))))))))))))))))))))))))))))))], true, [], []⟩ .ret))
   .skip)))
  (.seq (.region [
    ⟨(some 59), (.mv (.s 0)), none, []⟩,
    ⟨(some 60), (.mv (.s 1)), none, []⟩,
    ⟨(some 61), (.mv (.s 4)), none, []⟩,
    ⟨(some 62), (.call (.c (.fn 88 [])) [(.s 59), (.s 60), (.s 61)]), none, [0, 1, 2]⟩,
    ⟨(some 58), (.mv (.s 62)), none, [3]⟩,
    ⟨(some 63), (.ext (.s 58) 0), none, [4]⟩,
    ⟨(some 64), (.ext (.s 58) 1), none, [4]⟩,
    ⟨(some 13), (.mv (.s 63)), none, [5, 3, 0, 1, 2, 3, 4, 5]⟩,
    ⟨(some 14), (.mv (.s 64)), none, [6, 7, 0, 1, 2, 3, 4, 5, 6, 7]⟩] false)
  (.seq (.seq (.region [
    ⟨(some 65), (.mv (.s 14)), none, []⟩,
    ⟨(some 66), (.bin .neq (.s 65) (.c (.int .i64 0))), none, [0]⟩] false)
  (.cond (.s 66)
   (.seq (.region [
     ⟨(some 67), (.mv (.s 14)), none, []⟩,
     ⟨(some 10), (.mv (.c (.int .i64 0))), none, []⟩,
     ⟨(some 11), (.mv (.s 67)), none, [0, 1, 0, 1]⟩] false)
   (.pre ⟨0, [(2, (Sh.st (Sh.pr Sh.bool (Sh.pr (Sh.int .u8) (Sh.pr (Sh.int .u8) (Sh.pr (Sh.int .u8) (Sh.pr (Sh.int .u8) (Sh.pr (Sh.int .u8) (Sh.pr (Sh.int .u8) (Sh.pr (Sh.int .u8) (Sh.pr (Sh.int .u8) (Sh.pr (Sh.int .u8) (Sh.pr (Sh.int .u8) (Sh.pr (Sh.int .u8) (Sh.pr (Sh.int .u8) (Sh.pr (Sh.int .u8) (Sh.pr (Sh.int .u8) (Sh.pr (Sh.int .u8) (Sh.pr (Sh.int .u8) (Sh.pr (Sh.int .u8) (Sh.pr (Sh.int .u8) (Sh.pr (Sh.int .u8) (Sh.pr (Sh.int .u8) (Sh.pr (Sh.int .u8) (Sh.pr (Sh.int .u8) (Sh.pr (Sh.int .u8) (Sh.pr (Sh.int .u8) (Sh.pr (Sh.int .u8) (Sh.pr (Sh.int .u8) (Sh.pr (Sh.int .u8) (Sh.pr (Sh.int .u8) (Sh.pr (Sh.int .u8) (Sh.pr (Sh.int .u8) (Sh.pr (Sh.int .u8) (Sh.pr (Sh.int .u8) (Sh.pr (Sh.sl (Sh.int .u8)) (Sh.pr (Sh.int .i64) (Sh.pr (Sh.int .i64) (Sh.pr (Sh.int .i64) (Sh.pr (Sh.sl (Sh.int .u8)) (Sh.pr (Sh.int .i64) (Sh.pr (Sh.int .i64) (Sh.pr (Sh.int .i64) Sh.bool)))))))))))))))))))))))))))))))))))))))))))], true, [], []⟩ .ret))
   .skip))
  (.seq (.region [
    ⟨(some 68), (.mv (.s 13)), none, []⟩,
    ⟨(some 69), (.len false (.s 68)), none, [0]⟩,
    ⟨(some 70), (.mv (.s 2)), none, []⟩,
    ⟨(some 71), (.mv (.s 3)), none, []⟩,
    ⟨(some 72), (.mv (.s 13)), none, []⟩,
    ⟨(some 73), (.call (.c (.fn 86 [])) [(.s 70), (.s 71), (.s 72)]), none, [2, 3, 4]⟩,
    ⟨(some 10), (.mv (.s 69)), none, [1, 5, 0, 1]⟩,
    ⟨(some 11), (.mv (.s 73)), none, [5, 6, 0, 1, 2, 3, 4, 5, 6]⟩] false)
  (.pre ⟨0, [(2, (Sh.st (Sh.pr Sh.bool (Sh.pr (Sh.int .u8) (Sh.pr (Sh.int .u8) (Sh.pr (Sh.int .u8) (Sh.pr (Sh.int .u8) (Sh.pr (Sh.int .u8) (Sh.pr (Sh.int .u8) (Sh.pr (Sh.int .u8) (Sh.pr (Sh.int .u8) (Sh.pr (Sh.int .u8) (Sh.pr (Sh.int .u8) (Sh.pr (Sh.int .u8) (Sh.pr (Sh.int .u8) (Sh.pr (Sh.int .u8) (Sh.pr (Sh.int .u8) (Sh.pr (Sh.int .u8) (Sh.pr (Sh.int .u8) (Sh.pr (Sh.int .u8) (Sh.pr (Sh.int .u8) (Sh.pr (Sh.int .u8) (Sh.pr (Sh.int .u8) (Sh.pr (Sh.int .u8) (Sh.pr (Sh.int .u8) (Sh.pr (Sh.int .u8) (Sh.pr (Sh.int .u8) (Sh.pr (Sh.int .u8) (Sh.pr (Sh.int .u8) (Sh.pr (Sh.int .u8) (Sh.pr (Sh.int .u8) (Sh.pr (Sh.int .u8) (Sh.pr (Sh.int .u8) (Sh.pr (Sh.int .u8) (Sh.pr (Sh.int .u8) (Sh.pr (Sh.sl (Sh.int .u8)) (Sh.pr (Sh.int .i64) (Sh.pr (Sh.int .i64) (Sh.pr (Sh.int .i64) (Sh.pr (Sh.sl (Sh.int .u8)) (Sh.pr (Sh.int .i64) (Sh.pr (Sh.int .i64) (Sh.pr (Sh.int .i64) Sh.bool)))))))))))))))))))))))))))))))))))))))))))], true, [], []⟩ .ret))))))), false, none, none, false⟩

/-- (*euphroe/chans.Chan).Open -/
def k98 : Fun := ⟨1, 12, [0, 2], [(.tmp 2)],
  (.seq (.region [
    ⟨(some 2), (.mv (.c (.bool false))), none, []⟩] false)
  (.seq (.region [
    ⟨(some 3), (.mv (.s 0)), none, []⟩,
    ⟨(some 4), (.call (.c (.fn 110 [])) [(.s 3)]), none, [0]⟩,
    ⟨(some 5), (.mv (.s 4)), none, [1, 1]⟩,
    ⟨(some 6), (.mv (.s 0)), (some (5, true)), [2]⟩,
    ⟨(some 7), (.nilc (.s 6)), (some (5, true)), [3, 2]⟩,
    ⟨(some 8), (.fad 41 (.s 7)), (some (5, true)), [4, 2]⟩,
    ⟨(some 9), (.ldc (.s 8)), (some (5, true)), [5, 2]⟩,
    ⟨(some 10), (.un .not (.s 9)), (some (5, true)), [6, 2]⟩,
    ⟨(some 11), (.pick (.s 5) (.s 10) (.c (.bool false))), none, [2, 7]⟩,
    ⟨(some 2), (.mv (.s 11)), none, [8, 2, 0, 1, 2, 3, 4, 5, 6, 7, 8]⟩] false)
  .ret)), false, none, none, true⟩

/-- (*euphroe/chans.Chan).Hash -/
def k99 : Fun := ⟨1, 11, [0, 2, 5], [(.cell 2 32 true (some .u8))],
  (.seq (.region [
    ⟨(some 2), (.new (.ints .u8 [0, 0, 0, 0, 0, 0, 0, 0, 0, 0, 0, 0, 0, 0, 0, 0, 0, 0, 0, 0, 0, 0, 0, 0, 0, 0, 0, 0, 0, 0, 0, 0])), none, []⟩] false)
  (.seq (.seq (.region [
    ⟨(some 3), (.mv (.s 0)), none, []⟩,
    ⟨(some 4), (.call (.c (.fn 110 [])) [(.s 3)]), none, [0]⟩,
    ⟨(some 5), (.un .not (.s 4)), none, [1]⟩] false)
  (.cond (.s 5)
   (.seq (.region [
     ⟨(some 6), (.build (.ints .u8 [0, 0, 0, 0, 0, 0, 0, 0, 0, 0, 0, 0, 0, 0, 0, 0, 0, 0, 0, 0, 0, 0, 0, 0, 0, 0, 0, 0, 0, 0, 0, 0]) []), none, []⟩,
     ⟨none, (.stc 32 (.s 2) (.s 6)), none, [0, 0]⟩] false)
   .ret)
   .skip))
  (.seq (.region [
    ⟨(some 7), (.mv (.s 0)), none, []⟩,
    ⟨(some 8), (.nilc (.s 7)), none, [0]⟩,
    ⟨(some 9), (.fad 1 (.s 8)), none, [1]⟩,
    ⟨(some 10), (.lda 32 (some .u8) (.s 9)), none, [2]⟩,
    ⟨none, (.stc 32 (.s 2) (.s 10)), none, [3, 0, 1, 2, 3]⟩] false)
  .ret))), false, none, none, false⟩

/-- (*euphroe/chans.Chan).may -/
def k106 : Fun := ⟨3, 19, [0, 1, 2, 6, 7, 11], [(.tmp 6)],
  (.seq (.region [
    ⟨(some 6), (.mv (.c (.int .i64 0))), none, []⟩] false)
  (.seq (.block 0
   (.seq (.region [
     ⟨(some 8), (.mv (.s 0)), none, []⟩,
     ⟨(some 9), (.call (.c (.fn 110 [])) [(.s 8)]), none, [0]⟩,
     ⟨(some 10), (.un .not (.s 9)), none, [1]⟩,
     ⟨(some 7), (.mv (.s 10)), none, [2, 1]⟩] false)
   (.cond (.s 7)
    (.seq (.region [
      ⟨(some 6), (.mv (.c (.int .i64 2))), none, []⟩] false)
    .ret)
    (.seq (.region [
      ⟨(some 12), (.mv (.s 1)), none, []⟩,
      ⟨(some 13), (.call (.c (.fn 111 [])) [(.s 12)]), none, [0]⟩,
      ⟨(some 14), (.un .not (.s 13)), none, [1]⟩,
      ⟨(some 15), (.mv (.s 14)), none, [2, 1]⟩,
      ⟨(some 16), (.mv (.s 2)), (some (15, false)), [3]⟩,
      ⟨(some 17), (.bin .lss (.s 16) (.c (.int .i64 0))), (some (15, false)), [4, 3]⟩,
      ⟨(some 18), (.pick (.s 15) (.c (.bool true)) (.s 17)), none, [3, 5]⟩,
      ⟨(some 11), (.mv (.s 18)), none, [6, 3]⟩] false)
    (.cond (.s 11)
     (.seq (.region [
       ⟨(some 6), (.mv (.c (.int .i64 1))), none, []⟩] false)
     .ret)
     .skip)))))
  (.seq (.region [
    ⟨(some 6), (.mv (.c (.int .i64 0))), none, []⟩] false)
  .ret))), false, none, none, true⟩

/-- (*euphroe/chans.Chan).holds -/
def k107 : Fun := ⟨3, 24, [0, 1, 2, 6, 7, 12], [(.tmp 6)],
  (.seq (.region [
    ⟨(some 6), (.mv (.c (.int .i64 0))), none, []⟩] false)
  (.seq (.block 0
   (.seq (.region [
     ⟨(some 8), (.mv (.s 0)), none, []⟩,
     ⟨(some 9), (.nilc (.s 8)), none, [0]⟩,
     ⟨(some 10), (.fad 41 (.s 9)), none, [1]⟩,
     ⟨(some 11), (.ldc (.s 10)), none, [2]⟩,
     ⟨(some 7), (.mv (.s 11)), none, [3]⟩] false)
   (.cond (.s 7)
    (.seq (.region [
      ⟨(some 6), (.mv (.c (.int .i64 11))), none, []⟩] false)
    .ret)
    (.seq (.region [
      ⟨(some 13), (.mv (.s 0)), none, []⟩,
      ⟨(some 14), (.mv (.s 1)), none, []⟩,
      ⟨(some 15), (.nilc (.s 13)), none, [0]⟩,
      ⟨(some 16), (.fad 33 (.s 15)), none, [2]⟩,
      ⟨(some 17), (.iaa 2 4 (.s 16) (.s 14)), none, [3, 1]⟩,
      ⟨(some 18), (.fad 0 (.s 17)), none, [4]⟩,
      ⟨(some 19), (.ldc (.s 18)), none, [5]⟩,
      ⟨(some 20), (.len false (.s 19)), none, [6]⟩,
      ⟨(some 21), (.mv (.s 2)), none, []⟩,
      ⟨(some 22), (.bin .add (.s 20) (.s 21)), none, [7, 8]⟩,
      ⟨(some 23), (.bin .gtr (.s 22) (.c (.int .i64 65536))), none, [9]⟩,
      ⟨(some 12), (.mv (.s 23)), none, [10]⟩] false)
    (.cond (.s 12)
     (.seq (.region [
       ⟨(some 6), (.mv (.c (.int .i64 12))), none, []⟩] false)
     .ret)
     .skip)))))
  (.seq (.region [
    ⟨(some 6), (.mv (.c (.int .i64 0))), none, []⟩] false)
  .ret))), false, none, none, true⟩

/-- (*euphroe/chans.way).cut -/
def k109 : Fun := ⟨2, 30, [0, 1, 4, 5], [(.tmp 4)],
  (.seq (.region [
    ⟨(some 4), (.mv (.c .nils)), none, []⟩] false)
  (.seq (.region [
    ⟨(some 6), (.mv (.s 1)), none, []⟩,
    ⟨(some 7), (.mv (.s 0)), none, []⟩,
    ⟨(some 8), (.nilc (.s 7)), none, [1]⟩,
    ⟨(some 9), (.fad 0 (.s 8)), none, [2]⟩,
    ⟨(some 10), (.ldc (.s 9)), none, [3]⟩,
    ⟨(some 11), (.len false (.s 10)), none, [4]⟩,
    ⟨(some 12), (.mnx false [(.s 6), (.s 11)]), none, [0, 5]⟩,
    ⟨(some 1), (.mv (.s 12)), none, [6, 0, 1, 2, 3, 4, 5, 6]⟩] false)
  (.seq (.region [
    ⟨(some 13), (.mv (.s 0)), none, []⟩,
    ⟨(some 14), (.nilc (.s 13)), none, [0]⟩,
    ⟨(some 15), (.fad 0 (.s 14)), none, [1]⟩,
    ⟨(some 16), (.ldc (.s 15)), none, [2]⟩,
    ⟨(some 17), (.mv (.s 1)), none, []⟩,
    ⟨(some 18), (.sls 1 (.s 16) none (some (.s 17)) none), none, [3, 4]⟩,
    ⟨(some 19), (.call (.c (.fn 108 [])) [(.s 18)]), none, [5]⟩,
    ⟨(some 5), (.mv (.s 19)), none, [6, 6, 0, 1, 2, 3, 4, 5, 6]⟩] false)
  (.seq (.region [
    ⟨(some 20), (.mv (.s 0)), none, []⟩,
    ⟨(some 21), (.mv (.s 0)), none, []⟩,
    ⟨(some 22), (.nilc (.s 21)), none, [1]⟩,
    ⟨(some 23), (.fad 0 (.s 22)), none, [2]⟩,
    ⟨(some 24), (.ldc (.s 23)), none, [3]⟩,
    ⟨(some 25), (.mv (.s 1)), none, []⟩,
    ⟨(some 26), (.sls 1 (.s 24) (some (.s 25)) none none), none, [4, 5]⟩,
    ⟨(some 27), (.nilc (.s 20)), none, [0, 0, 1, 2, 3, 4, 5, 6]⟩,
    ⟨(some 28), (.fad 0 (.s 27)), none, [7, 0, 1, 2, 3, 4, 5, 6]⟩,
    ⟨none, (.stc 1 (.s 28) (.s 26)), none, [8, 6, 0, 1, 2, 3, 4, 5, 6]⟩] false)
  (.seq (.region [
    ⟨(some 29), (.mv (.s 5)), none, []⟩,
    ⟨(some 4), (.mv (.s 29)), none, [0, 0]⟩] false)
  .ret))))), false, none, none, false⟩

/-- (*euphroe/chans.Chan).ok -/
def k110 : Fun := ⟨1, 11, [0, 2], [(.tmp 2)],
  (.seq (.region [
    ⟨(some 2), (.mv (.c (.bool false))), none, []⟩] false)
  (.seq (.region [
    ⟨(some 3), (.mv (.s 0)), none, []⟩,
    ⟨(some 4), (.eqn .p true (.s 3) (.c .nilp)), none, [0]⟩,
    ⟨(some 5), (.mv (.s 4)), none, [1]⟩,
    ⟨(some 6), (.mv (.s 0)), (some (5, true)), [2]⟩,
    ⟨(some 7), (.nilc (.s 6)), (some (5, true)), [3, 2]⟩,
    ⟨(some 8), (.fad 0 (.s 7)), (some (5, true)), [4, 2]⟩,
    ⟨(some 9), (.ldc (.s 8)), (some (5, true)), [5, 2]⟩,
    ⟨(some 10), (.pick (.s 5) (.s 9) (.c (.bool false))), none, [2, 6]⟩,
    ⟨(some 2), (.mv (.s 10)), none, [7, 2, 0, 1, 2, 3, 4, 5, 6, 7]⟩] false)
  .ret)), false, none, none, true⟩

/-- euphroe/chans.isWay -/
def k111 : Fun := ⟨1, 9, [0, 2], [(.tmp 2)],
  (.seq (.region [
    ⟨(some 2), (.mv (.c (.bool false))), none, []⟩] false)
  (.seq (.region [
    ⟨(some 3), (.mv (.s 0)), none, []⟩,
    ⟨(some 4), (.bin .eql (.s 3) (.c (.int .i64 0))), none, [0]⟩,
    ⟨(some 5), (.mv (.s 4)), none, [1]⟩,
    ⟨(some 6), (.mv (.s 0)), (some (5, false)), [2]⟩,
    ⟨(some 7), (.bin .eql (.s 6) (.c (.int .i64 1))), (some (5, false)), [3, 2]⟩,
    ⟨(some 8), (.pick (.s 5) (.c (.bool true)) (.s 7)), none, [2, 4]⟩,
    ⟨(some 2), (.mv (.s 8)), none, [5, 2, 0, 1, 2, 3, 4, 5]⟩] false)
  .ret)), false, (some [(Sh.int .i64)]), (some Sh.bool), false⟩

def FT : Nat → Option Fun
  | 23 => some k23
  | 72 => some k72
  | 84 => some k84
  | 85 => some k85
  | 86 => some k86
  | 88 => some k88
  | 90 => some k90
  | 91 => some k91
  | 92 => some k92
  | 98 => some k98
  | 99 => some k99
  | 106 => some k106
  | 107 => some k107
  | 109 => some k109
  | 110 => some k110
  | 111 => some k111
  | _ => none
end Go.Proofs.YtcnkihdjenjdgaaE
