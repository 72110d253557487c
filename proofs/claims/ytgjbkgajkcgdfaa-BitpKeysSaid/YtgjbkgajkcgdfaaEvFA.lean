/- The evaluator's functions. -/
import Derived.Test.YtgjbkgajkcgdfaaEvXT
namespace Go.Proofs.YtgjbkgajkcgdfaaE
open Go
set_option linter.unusedVariables false
set_option linter.unusedSimpArgs false

/-- euphroe/euphroelaw01.OctsPuts -/
def k10 : Fun := ⟨3, 74, [0, 1, 2, 6, 8, 9, 10, 11, 12, 13, 14, 15, 16, 19, 21, 22, 23, 24, 71], [(.tmp 6)],
  (.seq (.region [
    ⟨(some 6), (.mv (.c (.bool false))), none, []⟩] false)
  (.seq (.seq (.region [
    ⟨(some 17), (.mv (.s 2)), none, []⟩,
    ⟨(some 18), (.len false (.s 17)), none, [0]⟩,
    ⟨(some 19), (.bin .gtr (.s 18) (.c (.int .i64 100))), none, [1]⟩] false)
  (.cond (.s 19)
   (.seq (.region [
     ⟨(some 20), (.call (.c (.fn 18 [])) []), none, []⟩,
     ⟨(some 6), (.mv (.s 20)), none, [0, 0, 0]⟩] false)
   .ret)
   .skip))
  (.seq (.seq (.region [
    ⟨(some 21), (.bsl 2 1 (.vals [(.bool false), (.bool false)]) [(0, 1, (.c (.bool false))), (1, 1, (.c (.bool true)))]), none, []⟩,
    ⟨(some 22), (.len false (.s 21)), none, [0]⟩,
    ⟨(some 23), (.mv (.c (.int .i64 0))), none, []⟩] false)
  (.block 0
   (.loop ⟨0, [], false, [0, 1, 2, 21, 22, 23], []⟩
    (.seq (.region [
      ⟨(some 24), (.bin .lss (.s 23) (.s 22)), none, []⟩] false)
    (.seq (.cond (.s 24)
     .skip
     (.pre ⟨0, [], false, [], []⟩ (.exit 0)))
    (.seq (.block 1
     (.seq (.region [
       ⟨(some 25), (.iad 1 (.s 21) (.s 23)), none, []⟩,
       ⟨(some 26), (.ldc (.s 25)), none, [0]⟩,
       ⟨(some 8), (.mv (.s 26)), none, [1, 0, 1]⟩] false)
     (.seq (.region [
       ⟨(some 28), (.mv (.s 0)), none, []⟩,
       ⟨(some 29), (.mv (.s 1)), none, []⟩,
       ⟨(some 30), (.mv (.s 8)), none, []⟩,
       ⟨(some 31), (.call (.c (.fn 19 [])) [(.s 28), (.s 29), (.s 30)]), none, [0, 1, 2]⟩,
       ⟨(some 27), (.mv (.s 31)), none, [3]⟩,
       ⟨(some 32), (.ext (.s 27) 0), none, [4]⟩,
       ⟨(some 33), (.ext (.s 27) 1), none, [4]⟩,
       ⟨(some 9), (.mv (.s 32)), none, [5, 3, 0, 1, 2, 3, 4, 5]⟩,
       ⟨(some 10), (.mv (.s 33)), none, [6, 7, 0, 1, 2, 3, 4, 5, 6, 7]⟩] false)
     (.seq (.region [
       ⟨(some 35), (.mv (.s 0)), none, []⟩,
       ⟨(some 36), (.mv (.s 1)), none, []⟩,
       ⟨(some 37), (.mv (.s 8)), none, []⟩,
       ⟨(some 38), (.call (.c (.fn 20 [])) [(.s 35), (.s 36), (.s 37)]), none, [0, 1, 2]⟩,
       ⟨(some 34), (.mv (.s 38)), none, [3]⟩,
       ⟨(some 39), (.ext (.s 34) 0), none, [4]⟩,
       ⟨(some 40), (.ext (.s 34) 1), none, [4]⟩,
       ⟨(some 11), (.mv (.s 39)), none, [5, 3, 0, 1, 2, 3, 4, 5]⟩,
       ⟨(some 12), (.mv (.s 40)), none, [6, 7, 0, 1, 2, 3, 4, 5, 6, 7]⟩] false)
     (.seq (.region [
       ⟨(some 42), (.mv (.s 2)), none, []⟩,
       ⟨(some 43), (.mv (.s 8)), none, []⟩,
       ⟨(some 44), (.call (.c (.fn 21 [])) [(.s 42), (.s 43)]), none, [0, 1]⟩,
       ⟨(some 41), (.mv (.s 44)), none, [2]⟩,
       ⟨(some 45), (.ext (.s 41) 0), none, [3]⟩,
       ⟨(some 46), (.ext (.s 41) 1), none, [3]⟩,
       ⟨(some 13), (.mv (.s 45)), none, [4, 2, 0, 1, 2, 3, 4]⟩,
       ⟨(some 14), (.mv (.s 46)), none, [5, 6, 0, 1, 2, 3, 4, 5, 6]⟩] false)
     (.seq (.region [
       ⟨(some 48), (.mv (.s 2)), none, []⟩,
       ⟨(some 49), (.mv (.s 8)), none, []⟩,
       ⟨(some 50), (.call (.c (.fn 22 [])) [(.s 48), (.s 49)]), none, [0, 1]⟩,
       ⟨(some 47), (.mv (.s 50)), none, [2]⟩,
       ⟨(some 51), (.ext (.s 47) 0), none, [3]⟩,
       ⟨(some 52), (.ext (.s 47) 1), none, [3]⟩,
       ⟨(some 15), (.mv (.s 51)), none, [4, 2, 0, 1, 2, 3, 4]⟩,
       ⟨(some 16), (.mv (.s 52)), none, [5, 6, 0, 1, 2, 3, 4, 5, 6]⟩] false)
     (.seq (.region [
       ⟨(some 53), (.mv (.s 9)), none, []⟩,
       ⟨(some 54), (.mv (.s 11)), none, []⟩,
       ⟨(some 55), (.call (.c (.fn 23 [])) [(.s 53), (.s 54)]), none, [0, 1]⟩,
       ⟨(some 56), (.un .not (.s 55)), none, [2]⟩,
       ⟨(some 57), (.mv (.s 56)), none, [3, 2]⟩,
       ⟨(some 58), (.mv (.s 10)), (some (57, false)), [4]⟩,
       ⟨(some 59), (.mv (.s 12)), (some (57, false)), [4]⟩,
       ⟨(some 60), (.bin .neq (.s 58) (.s 59)), (some (57, false)), [5, 6, 4]⟩,
       ⟨(some 61), (.pick (.s 57) (.c (.bool true)) (.s 60)), none, [4, 7]⟩,
       ⟨(some 62), (.mv (.s 61)), none, [8, 4]⟩,
       ⟨(some 63), (.mv (.s 13)), (some (62, false)), [9]⟩,
       ⟨(some 64), (.mv (.s 15)), (some (62, false)), [9]⟩,
       ⟨(some 65), (.bin .neq (.s 63) (.s 64)), (some (62, false)), [10, 11, 9]⟩,
       ⟨(some 66), (.pick (.s 62) (.c (.bool true)) (.s 65)), none, [9, 12]⟩,
       ⟨(some 67), (.mv (.s 66)), none, [13, 9]⟩,
       ⟨(some 68), (.mv (.s 14)), (some (67, false)), [14]⟩,
       ⟨(some 69), (.mv (.s 16)), (some (67, false)), [14]⟩,
       ⟨(some 70), (.bin .neq (.s 68) (.s 69)), (some (67, false)), [15, 16, 14]⟩,
       ⟨(some 71), (.pick (.s 67) (.c (.bool true)) (.s 70)), none, [14, 17]⟩] false)
     (.cond (.s 71)
      (.seq (.region [
        ⟨(some 6), (.mv (.c (.bool false))), none, []⟩] false)
      .ret)
      .skip))))))))
    (.region [
      ⟨(some 72), (.bin .add (.s 23) (.c (.int .i64 1))), none, []⟩,
      ⟨(some 23), (.mv (.s 72)), none, [0]⟩] false)))))))
  (.seq (.region [
    ⟨(some 73), (.call (.c (.fn 18 [])) []), none, []⟩,
    ⟨(some 6), (.mv (.s 73)), none, [0, 0, 0]⟩] false)
  .ret)))), false, (some [(Sh.int .u64), (Sh.int .i64), (Sh.sl (Sh.int .u8))]), (some Sh.bool)⟩

/-- euphroe/euphroelaw03.BitpOdd -/
def k11 : Fun := ⟨2, 67, [0, 1, 2, 4, 5, 6, 8, 9, 10, 20, 21, 22, 23, 26, 27, 39], [(.tmp 4)],
  (.seq (.region [
    ⟨(some 2), (.box (.s 0)), none, []⟩,
    ⟨(some 4), (.mv (.c (.bool false))), none, []⟩] false)
  (.seq (.region [
    ⟨(some 12), (.sla 7 1 (.s 2) none none none), none, []⟩,
    ⟨(some 13), (.call (.c (.fn 24 [])) [(.s 12)]), none, [0]⟩,
    ⟨(some 11), (.mv (.s 13)), none, [1]⟩,
    ⟨(some 14), (.ext (.s 11) 0), none, [2]⟩,
    ⟨(some 15), (.ext (.s 11) 1), none, [2]⟩,
    ⟨(some 5), (.mv (.s 14)), none, [3, 1, 0, 1, 2, 3]⟩,
    ⟨(some 6), (.mv (.s 15)), none, [4, 5, 0, 1, 2, 3, 4, 5]⟩] false)
  (.seq (.seq (.region [
    ⟨(some 16), (.mv (.s 5)), none, []⟩,
    ⟨(some 17), (.mv (.s 1)), none, []⟩,
    ⟨(some 18), (.call (.c (.fn 25 [])) [(.s 17)]), none, [1]⟩,
    ⟨(some 19), (.bsl 1 1 (.ints .u8 [0]) [(0, 1, (.s 18))]), none, [2]⟩,
    ⟨(some 20), (.app 1 1 (.s 16) (.s 19)), none, [0, 3, 2]⟩,
    ⟨(some 21), (.len false (.s 20)), none, [4]⟩,
    ⟨(some 22), (.mv (.c (.int .i64 0))), none, []⟩] false)
  (.block 0
   (.loop ⟨0, [], false, [1, 5, 6, 20, 21, 22], []⟩
    (.seq (.region [
      ⟨(some 23), (.bin .lss (.s 22) (.s 21)), none, []⟩] false)
    (.seq (.cond (.s 23)
     .skip
     (.pre ⟨0, [], false, [1, 5, 6], []⟩ (.exit 0)))
    (.seq (.block 1
     (.seq (.region [
       ⟨(some 24), (.iad 1 (.s 20) (.s 22)), none, []⟩,
       ⟨(some 25), (.ldc (.s 24)), none, [0]⟩,
       ⟨(some 8), (.mv (.s 25)), none, [1, 0, 1]⟩] false)
     (.seq (.region [
       ⟨(some 9), (.mv (.c (.int .i64 0))), none, []⟩] false)
     (.seq (.seq (.region [
       ⟨(some 26), (.mv (.c (.int .i64 0))), none, []⟩] false)
     (.block 2
      (.loop ⟨1, [], false, [1, 5, 6, 8, 9, 20, 21, 22, 26], []⟩
       (.seq (.region [
         ⟨(some 27), (.bin .lss (.s 26) (.c (.int .i64 8))), none, []⟩] false)
       (.seq (.cond (.s 27)
        .skip
        (.pre ⟨0, [], false, [1, 5, 6, 9, 20, 21, 22], []⟩ (.exit 2)))
       (.seq (.block 3
        (.seq (.region [
          ⟨(some 28), (.mv (.s 26)), none, []⟩,
          ⟨(some 10), (.mv (.s 28)), none, [0, 0]⟩] false)
        (.region [
          ⟨(some 29), (.mv (.s 9)), none, []⟩,
          ⟨(some 30), (.mv (.s 8)), none, []⟩,
          ⟨(some 31), (.mv (.s 10)), none, []⟩,
          ⟨(some 32), (.bin .shr (.s 30) (.s 31)), none, [1, 2]⟩,
          ⟨(some 33), (.bin .and (.s 32) (.c (.int .u8 1))), none, [3]⟩,
          ⟨(some 34), (.cvi .i64 (.s 33)), none, [4]⟩,
          ⟨(some 35), (.bin .add (.s 29) (.s 34)), none, [0, 5]⟩,
          ⟨(some 9), (.mv (.s 35)), none, [6, 0, 1, 2, 3, 4, 5, 6]⟩] false)))
       (.region [
         ⟨(some 36), (.bin .add (.s 26) (.c (.int .i64 1))), none, []⟩,
         ⟨(some 26), (.mv (.s 36)), none, [0]⟩] false)))))))
     (.seq (.region [
       ⟨(some 37), (.mv (.s 9)), none, []⟩,
       ⟨(some 38), (.bin .rem (.s 37) (.c (.int .i64 2))), none, [0]⟩,
       ⟨(some 39), (.bin .neq (.s 38) (.c (.int .i64 1))), none, [1]⟩] false)
     (.cond (.s 39)
      (.seq (.region [
        ⟨(some 4), (.mv (.c (.bool false))), none, []⟩] false)
      .ret)
      .skip))))))
    (.region [
      ⟨(some 40), (.bin .add (.s 22) (.c (.int .i64 1))), none, []⟩,
      ⟨(some 22), (.mv (.s 40)), none, [0]⟩] false)))))))
  (.seq (.region [
    ⟨(some 41), (.mv (.s 6)), none, []⟩,
    ⟨(some 42), (.bin .eql (.s 41) (.c (.int .i64 0))), none, [0]⟩,
    ⟨(some 43), (.mv (.s 42)), none, [1]⟩,
    ⟨(some 44), (.mv (.s 5)), (some (43, true)), [2]⟩,
    ⟨(some 45), (.len false (.s 44)), (some (43, true)), [3, 2]⟩,
    ⟨(some 46), (.bin .eql (.s 45) (.c (.int .i64 8))), (some (43, true)), [4, 2]⟩,
    ⟨(some 47), (.pick (.s 43) (.s 46) (.c (.bool false))), none, [2, 5]⟩,
    ⟨(some 48), (.mv (.s 47)), none, [6, 2]⟩,
    ⟨(some 49), (.mv (.s 1)), (some (48, true)), [7]⟩,
    ⟨(some 50), (.call (.c (.fn 25 [])) [(.s 49)]), (some (48, true)), [8, 7, 7]⟩,
    ⟨(some 51), (.bin .shr (.s 50) (.c (.int .u64 1))), (some (48, true)), [9, 7]⟩,
    ⟨(some 52), (.mv (.s 1)), (some (48, true)), [7]⟩,
    ⟨(some 53), (.bin .shr (.s 52) (.c (.int .u64 1))), (some (48, true)), [11, 7]⟩,
    ⟨(some 54), (.bin .eql (.s 51) (.s 53)), (some (48, true)), [10, 12, 7]⟩,
    ⟨(some 55), (.pick (.s 48) (.s 54) (.c (.bool false))), none, [7, 13]⟩,
    ⟨(some 56), (.mv (.s 55)), none, [14, 9]⟩,
    ⟨(some 57), (.mv (.s 1)), (some (56, true)), [15]⟩,
    ⟨(some 58), (.call (.c (.fn 25 [])) [(.s 57)]), (some (56, true)), [16, 15, 15]⟩,
    ⟨(some 59), (.call (.c (.fn 25 [])) [(.s 58)]), (some (56, true)), [17, 17, 15]⟩,
    ⟨(some 60), (.mv (.s 1)), (some (56, true)), [15]⟩,
    ⟨(some 61), (.call (.c (.fn 25 [])) [(.s 60)]), (some (56, true)), [19, 18, 15]⟩,
    ⟨(some 62), (.bin .eql (.s 59) (.s 61)), (some (56, true)), [18, 20, 15]⟩,
    ⟨(some 63), (.pick (.s 56) (.s 62) (.c (.bool false))), none, [15, 21]⟩,
    ⟨(some 64), (.mv (.s 63)), none, [22, 20]⟩,
    ⟨(some 65), (.call (.c (.fn 26 [])) []), (some (64, true)), [23, 23]⟩,
    ⟨(some 66), (.pick (.s 64) (.s 65) (.c (.bool false))), none, [23, 24]⟩,
    ⟨(some 4), (.mv (.s 66)), none, [25, 24, 0, 1, 2, 3, 4, 5, 6, 7, 8, 9, 10, 11, 12, 13, 14, 15, 16, 17, 18, 19, 20, 21, 22, 23, 24, 25]⟩] false)
  .ret)))), false, (some [(Sh.ar .u8), (Sh.int .u8)]), (some Sh.bool)⟩

/-- euphroe/euphroelaw03.BitpWords -/
def k12 : Fun := ⟨3, 125, [0, 1, 2, 4, 6, 7, 8, 9, 10, 11, 12, 13, 14, 15, 16, 17, 18, 19, 20, 21, 22, 23, 26], [(.tmp 6)],
  (.seq (.region [
    ⟨(some 4), (.box (.s 1)), none, []⟩,
    ⟨(some 6), (.mv (.c (.bool false))), none, []⟩] false)
  (.seq (.seq (.region [
    ⟨(some 24), (.mv (.s 2)), none, []⟩,
    ⟨(some 25), (.len false (.s 24)), none, [0]⟩,
    ⟨(some 26), (.bin .gtr (.s 25) (.c (.int .i64 200))), none, [1]⟩] false)
  (.cond (.s 26)
   (.seq (.region [
     ⟨(some 27), (.call (.c (.fn 26 [])) []), none, []⟩,
     ⟨(some 6), (.mv (.s 27)), none, [0, 0, 0]⟩] false)
   .ret)
   .skip))
  (.seq (.region [
    ⟨(some 28), (.iaa 3 1 (.s 4) (.c (.int .i64 0))), none, []⟩,
    ⟨(some 29), (.ldc (.s 28)), none, [0]⟩,
    ⟨(some 30), (.iaa 3 1 (.s 4) (.c (.int .i64 1))), none, []⟩,
    ⟨(some 31), (.ldc (.s 30)), none, [2]⟩,
    ⟨(some 32), (.iaa 3 1 (.s 4) (.c (.int .i64 2))), none, []⟩,
    ⟨(some 33), (.ldc (.s 32)), none, [4]⟩,
    ⟨(some 7), (.mv (.s 29)), none, [1, 0, 1]⟩,
    ⟨(some 8), (.mv (.s 31)), none, [3, 6, 0, 1, 2, 3, 6]⟩,
    ⟨(some 9), (.mv (.s 33)), none, [5, 7, 0, 1, 2, 3, 4, 5, 6, 7]⟩] true)
  (.seq (.region [
    ⟨(some 35), (.mv (.s 0)), none, []⟩,
    ⟨(some 36), (.mv (.s 7)), none, []⟩,
    ⟨(some 37), (.mv (.s 2)), none, []⟩,
    ⟨(some 38), (.call (.c (.fn 27 [])) [(.s 35), (.s 36), (.s 37)]), none, [0, 1, 2]⟩,
    ⟨(some 34), (.mv (.s 38)), none, [3]⟩,
    ⟨(some 39), (.ext (.s 34) 0), none, [4]⟩,
    ⟨(some 40), (.ext (.s 34) 1), none, [4]⟩,
    ⟨(some 10), (.mv (.s 39)), none, [5, 3, 0, 1, 2, 3, 4, 5]⟩,
    ⟨(some 11), (.mv (.s 40)), none, [6, 7, 0, 1, 2, 3, 4, 5, 6, 7]⟩] false)
  (.seq (.region [
    ⟨(some 42), (.mv (.s 0)), none, []⟩,
    ⟨(some 43), (.mv (.s 7)), none, []⟩,
    ⟨(some 44), (.mv (.s 2)), none, []⟩,
    ⟨(some 45), (.call (.c (.fn 28 [])) [(.s 42), (.s 43), (.s 44)]), none, [0, 1, 2]⟩,
    ⟨(some 41), (.mv (.s 45)), none, [3]⟩,
    ⟨(some 46), (.ext (.s 41) 0), none, [4]⟩,
    ⟨(some 47), (.ext (.s 41) 1), none, [4]⟩,
    ⟨(some 12), (.mv (.s 46)), none, [5, 3, 0, 1, 2, 3, 4, 5]⟩,
    ⟨(some 13), (.mv (.s 47)), none, [6, 7, 0, 1, 2, 3, 4, 5, 6, 7]⟩] false)
  (.seq (.region [
    ⟨(some 49), (.mv (.s 0)), none, []⟩,
    ⟨(some 50), (.mv (.s 7)), none, []⟩,
    ⟨(some 51), (.mv (.s 8)), none, []⟩,
    ⟨(some 52), (.call (.c (.fn 29 [])) [(.s 49), (.s 50), (.s 51)]), none, [0, 1, 2]⟩,
    ⟨(some 48), (.mv (.s 52)), none, [3]⟩,
    ⟨(some 53), (.ext (.s 48) 0), none, [4]⟩,
    ⟨(some 54), (.ext (.s 48) 1), none, [4]⟩,
    ⟨(some 14), (.mv (.s 53)), none, [5, 3, 0, 1, 2, 3, 4, 5]⟩,
    ⟨(some 15), (.mv (.s 54)), none, [6, 7, 0, 1, 2, 3, 4, 5, 6, 7]⟩] false)
  (.seq (.region [
    ⟨(some 56), (.mv (.s 0)), none, []⟩,
    ⟨(some 57), (.mv (.s 7)), none, []⟩,
    ⟨(some 58), (.mv (.s 8)), none, []⟩,
    ⟨(some 59), (.call (.c (.fn 30 [])) [(.s 56), (.s 57), (.s 58)]), none, [0, 1, 2]⟩,
    ⟨(some 55), (.mv (.s 59)), none, [3]⟩,
    ⟨(some 60), (.ext (.s 55) 0), none, [4]⟩,
    ⟨(some 61), (.ext (.s 55) 1), none, [4]⟩,
    ⟨(some 16), (.mv (.s 60)), none, [5, 3, 0, 1, 2, 3, 4, 5]⟩,
    ⟨(some 17), (.mv (.s 61)), none, [6, 7, 0, 1, 2, 3, 4, 5, 6, 7]⟩] false)
  (.seq (.region [
    ⟨(some 63), (.mv (.s 0)), none, []⟩,
    ⟨(some 64), (.mv (.s 7)), none, []⟩,
    ⟨(some 65), (.mv (.s 9)), none, []⟩,
    ⟨(some 66), (.call (.c (.fn 31 [])) [(.s 63), (.s 64), (.s 65)]), none, [0, 1, 2]⟩,
    ⟨(some 62), (.mv (.s 66)), none, [3]⟩,
    ⟨(some 67), (.ext (.s 62) 0), none, [4]⟩,
    ⟨(some 68), (.ext (.s 62) 1), none, [4]⟩,
    ⟨(some 69), (.ext (.s 62) 2), none, [4]⟩,
    ⟨(some 18), (.mv (.s 67)), none, [5, 3, 0, 1, 2, 3, 4, 5]⟩,
    ⟨(some 19), (.mv (.s 68)), none, [6, 8, 0, 1, 2, 3, 4, 5, 6, 8]⟩,
    ⟨(some 20), (.mv (.s 69)), none, [7, 9, 0, 1, 2, 3, 4, 5, 6, 7, 8, 9]⟩] false)
  (.seq (.region [
    ⟨(some 71), (.mv (.s 0)), none, []⟩,
    ⟨(some 72), (.mv (.s 7)), none, []⟩,
    ⟨(some 73), (.mv (.s 9)), none, []⟩,
    ⟨(some 74), (.call (.c (.fn 32 [])) [(.s 71), (.s 72), (.s 73)]), none, [0, 1, 2]⟩,
    ⟨(some 70), (.mv (.s 74)), none, [3]⟩,
    ⟨(some 75), (.ext (.s 70) 0), none, [4]⟩,
    ⟨(some 76), (.ext (.s 70) 1), none, [4]⟩,
    ⟨(some 77), (.ext (.s 70) 2), none, [4]⟩,
    ⟨(some 21), (.mv (.s 75)), none, [5, 3, 0, 1, 2, 3, 4, 5]⟩,
    ⟨(some 22), (.mv (.s 76)), none, [6, 8, 0, 1, 2, 3, 4, 5, 6, 8]⟩,
    ⟨(some 23), (.mv (.s 77)), none, [7, 9, 0, 1, 2, 3, 4, 5, 6, 7, 8, 9]⟩] false)
  (.seq (.region [
    ⟨(some 78), (.mv (.s 10)), none, []⟩,
    ⟨(some 79), (.mv (.s 12)), none, []⟩,
    ⟨(some 80), (.bin .eql (.s 78) (.s 79)), none, [0, 1]⟩,
    ⟨(some 81), (.mv (.s 80)), none, [2]⟩,
    ⟨(some 82), (.mv (.s 11)), (some (81, true)), [3]⟩,
    ⟨(some 83), (.mv (.s 13)), (some (81, true)), [3]⟩,
    ⟨(some 84), (.bin .eql (.s 82) (.s 83)), (some (81, true)), [4, 5, 3]⟩,
    ⟨(some 85), (.pick (.s 81) (.s 84) (.c (.bool false))), none, [3, 6]⟩,
    ⟨(some 86), (.mv (.s 85)), none, [7, 3]⟩,
    ⟨(some 87), (.mv (.s 14)), (some (86, true)), [8]⟩,
    ⟨(some 88), (.mv (.s 16)), (some (86, true)), [8]⟩,
    ⟨(some 89), (.bin .eql (.s 87) (.s 88)), (some (86, true)), [9, 10, 8]⟩,
    ⟨(some 90), (.pick (.s 86) (.s 89) (.c (.bool false))), none, [8, 11]⟩,
    ⟨(some 91), (.mv (.s 90)), none, [12, 8]⟩,
    ⟨(some 92), (.mv (.s 15)), (some (91, true)), [13]⟩,
    ⟨(some 93), (.mv (.s 17)), (some (91, true)), [13]⟩,
    ⟨(some 94), (.bin .eql (.s 92) (.s 93)), (some (91, true)), [14, 15, 13]⟩,
    ⟨(some 95), (.pick (.s 91) (.s 94) (.c (.bool false))), none, [13, 16]⟩,
    ⟨(some 96), (.mv (.s 95)), none, [17, 13]⟩,
    ⟨(some 97), (.mv (.s 18)), (some (96, true)), [18]⟩,
    ⟨(some 98), (.mv (.s 21)), (some (96, true)), [18]⟩,
    ⟨(some 99), (.bin .eql (.s 97) (.s 98)), (some (96, true)), [19, 20, 18]⟩,
    ⟨(some 100), (.pick (.s 96) (.s 99) (.c (.bool false))), none, [18, 21]⟩,
    ⟨(some 101), (.mv (.s 100)), none, [22, 18]⟩,
    ⟨(some 102), (.mv (.s 19)), (some (101, true)), [23]⟩,
    ⟨(some 103), (.mv (.s 22)), (some (101, true)), [23]⟩,
    ⟨(some 104), (.bin .eql (.s 102) (.s 103)), (some (101, true)), [24, 25, 23]⟩,
    ⟨(some 105), (.pick (.s 101) (.s 104) (.c (.bool false))), none, [23, 26]⟩,
    ⟨(some 106), (.mv (.s 105)), none, [27, 23]⟩,
    ⟨(some 107), (.mv (.s 20)), (some (106, true)), [28]⟩,
    ⟨(some 108), (.mv (.s 23)), (some (106, true)), [28]⟩,
    ⟨(some 109), (.bin .eql (.s 107) (.s 108)), (some (106, true)), [29, 30, 28]⟩,
    ⟨(some 110), (.pick (.s 106) (.s 109) (.c (.bool false))), none, [28, 31]⟩,
    ⟨(some 111), (.mv (.s 110)), none, [32, 28]⟩,
    ⟨(some 112), (.mv (.s 0)), (some (111, true)), [33]⟩,
    ⟨(some 113), (.mv (.s 7)), (some (111, true)), [33]⟩,
    ⟨(some 114), (.mv (.s 9)), (some (111, true)), [33]⟩,
    ⟨(some 115), (.call (.c (.fn 33 [])) [(.s 112), (.s 113), (.s 114)]), (some (111, true)), [34, 35, 36, 33, 33]⟩,
    ⟨(some 116), (.mv (.s 0)), (some (111, true)), [33]⟩,
    ⟨(some 117), (.mv (.s 7)), (some (111, true)), [33]⟩,
    ⟨(some 118), (.mv (.s 9)), (some (111, true)), [33]⟩,
    ⟨(some 119), (.call (.c (.fn 34 [])) [(.s 116), (.s 117), (.s 118)]), (some (111, true)), [38, 39, 40, 37, 33]⟩,
    ⟨(some 120), (.bin .eql (.s 115) (.s 119)), (some (111, true)), [37, 41, 33]⟩,
    ⟨(some 121), (.pick (.s 111) (.s 120) (.c (.bool false))), none, [33, 42]⟩,
    ⟨(some 122), (.mv (.s 121)), none, [43, 41]⟩,
    ⟨(some 123), (.call (.c (.fn 26 [])) []), (some (122, true)), [44, 44]⟩,
    ⟨(some 124), (.pick (.s 122) (.s 123) (.c (.bool false))), none, [44, 45]⟩,
    ⟨(some 6), (.mv (.s 124)), none, [46, 45, 0, 1, 2, 3, 4, 5, 6, 7, 8, 9, 10, 11, 12, 13, 14, 15, 16, 17, 18, 19, 20, 21, 22, 23, 24, 25, 26, 27, 28, 29, 30, 31, 32, 33, 34, 35, 36, 37, 38, 39, 40, 41, 42, 43, 44, 45, 46]⟩] false)
  .ret)))))))))), false, (some [(Sh.int .u64), (Sh.ar .i64), (Sh.sl (Sh.int .i64))]), (some Sh.bool)⟩

/-- euphroe/euphroelaw03.BitpTurns -/
def k13 : Fun := ⟨3, 135, [0, 1, 2, 5, 6, 7, 8, 9, 10, 11, 12, 13, 14, 15, 16, 49], [(.tmp 6)],
  (.seq (.region [
    ⟨(some 5), (.box (.s 2)), none, []⟩,
    ⟨(some 6), (.mv (.c (.bool false))), none, []⟩] false)
  (.seq (.region [
    ⟨(some 18), (.mv (.s 0)), none, []⟩,
    ⟨(some 19), (.mv (.s 1)), none, []⟩,
    ⟨(some 20), (.iaa 2 1 (.s 5) (.c (.int .i64 0))), none, []⟩,
    ⟨(some 21), (.ldc (.s 20)), none, [2]⟩,
    ⟨(some 22), (.cvi .i64 (.s 21)), none, [3]⟩,
    ⟨(some 23), (.call (.c (.fn 29 [])) [(.s 18), (.s 19), (.s 22)]), none, [0, 1, 4]⟩,
    ⟨(some 17), (.mv (.s 23)), none, [5]⟩,
    ⟨(some 24), (.ext (.s 17) 0), none, [6]⟩,
    ⟨(some 25), (.ext (.s 17) 1), none, [6]⟩,
    ⟨(some 7), (.mv (.s 24)), none, [7, 5, 0, 1, 2, 3, 4, 5, 6, 7]⟩,
    ⟨(some 8), (.mv (.s 25)), none, [8, 9, 0, 1, 2, 3, 4, 5, 6, 7, 8, 9]⟩] false)
  (.seq (.region [
    ⟨(some 27), (.mv (.s 7)), none, []⟩,
    ⟨(some 28), (.mv (.s 1)), none, []⟩,
    ⟨(some 29), (.iaa 2 1 (.s 5) (.c (.int .i64 1))), none, []⟩,
    ⟨(some 30), (.ldc (.s 29)), none, [2]⟩,
    ⟨(some 31), (.cvi .i64 (.s 30)), none, [3]⟩,
    ⟨(some 32), (.call (.c (.fn 29 [])) [(.s 27), (.s 28), (.s 31)]), none, [0, 1, 4]⟩,
    ⟨(some 26), (.mv (.s 32)), none, [5]⟩,
    ⟨(some 33), (.ext (.s 26) 0), none, [6]⟩,
    ⟨(some 34), (.ext (.s 26) 1), none, [6]⟩,
    ⟨(some 9), (.mv (.s 33)), none, [7, 5, 0, 1, 2, 3, 4, 5, 6, 7]⟩,
    ⟨(some 10), (.mv (.s 34)), none, [8, 9, 0, 1, 2, 3, 4, 5, 6, 7, 8, 9]⟩] false)
  (.seq (.region [
    ⟨(some 36), (.mv (.s 0)), none, []⟩,
    ⟨(some 37), (.mv (.s 1)), none, []⟩,
    ⟨(some 38), (.iaa 2 1 (.s 5) (.c (.int .i64 0))), none, []⟩,
    ⟨(some 39), (.ldc (.s 38)), none, [2]⟩,
    ⟨(some 40), (.cvi .i64 (.s 39)), none, [3]⟩,
    ⟨(some 41), (.iaa 2 1 (.s 5) (.c (.int .i64 1))), none, []⟩,
    ⟨(some 42), (.ldc (.s 41)), none, [5]⟩,
    ⟨(some 43), (.cvi .i64 (.s 42)), none, [6]⟩,
    ⟨(some 44), (.bin .add (.s 40) (.s 43)), none, [4, 7]⟩,
    ⟨(some 45), (.call (.c (.fn 29 [])) [(.s 36), (.s 37), (.s 44)]), none, [0, 1, 8]⟩,
    ⟨(some 35), (.mv (.s 45)), none, [9]⟩,
    ⟨(some 46), (.ext (.s 35) 0), none, [10]⟩,
    ⟨(some 47), (.ext (.s 35) 1), none, [10]⟩,
    ⟨(some 11), (.mv (.s 46)), none, [11, 9, 0, 1, 2, 3, 4, 5, 6, 7, 8, 9, 10, 11]⟩,
    ⟨(some 12), (.mv (.s 47)), none, [12, 13, 0, 1, 2, 3, 4, 5, 6, 7, 8, 9, 10, 11, 12, 13]⟩] false)
  (.seq (.seq (.region [
    ⟨(some 48), (.mv (.s 8)), none, []⟩,
    ⟨(some 49), (.bin .neq (.s 48) (.c (.int .i64 0))), none, [0]⟩] false)
  (.cond (.s 49)
   (.seq (.region [
     ⟨(some 50), (.mv (.s 10)), none, []⟩,
     ⟨(some 51), (.bin .neq (.s 50) (.c (.int .i64 0))), none, [0]⟩,
     ⟨(some 52), (.mv (.s 51)), none, [1]⟩,
     ⟨(some 53), (.mv (.s 12)), (some (52, true)), [2]⟩,
     ⟨(some 54), (.bin .neq (.s 53) (.c (.int .i64 0))), (some (52, true)), [3, 2]⟩,
     ⟨(some 55), (.pick (.s 52) (.s 54) (.c (.bool false))), none, [2, 4]⟩,
     ⟨(some 56), (.mv (.s 55)), none, [5, 2]⟩,
     ⟨(some 57), (.mv (.s 7)), (some (56, true)), [6]⟩,
     ⟨(some 58), (.mv (.s 9)), (some (56, true)), [6]⟩,
     ⟨(some 59), (.bin .add (.s 57) (.s 58)), (some (56, true)), [7, 8, 6]⟩,
     ⟨(some 60), (.mv (.s 11)), (some (56, true)), [6]⟩,
     ⟨(some 61), (.bin .add (.s 59) (.s 60)), (some (56, true)), [9, 10, 6]⟩,
     ⟨(some 62), (.bin .eql (.s 61) (.c (.int .u64 0))), (some (56, true)), [11, 6]⟩,
     ⟨(some 63), (.pick (.s 56) (.s 62) (.c (.bool false))), none, [6, 12]⟩,
     ⟨(some 64), (.mv (.s 63)), none, [13, 6]⟩,
     ⟨(some 65), (.call (.c (.fn 26 [])) []), (some (64, true)), [14, 14]⟩,
     ⟨(some 66), (.pick (.s 64) (.s 65) (.c (.bool false))), none, [14, 15]⟩,
     ⟨(some 6), (.mv (.s 66)), none, [16, 15, 0, 1, 2, 3, 4, 5, 6, 7, 8, 9, 10, 11, 12, 13, 14, 15, 16]⟩] false)
   .ret)
   .skip))
  (.seq (.region [
    ⟨(some 67), (.iaa 2 1 (.s 5) (.c (.int .i64 0))), none, []⟩,
    ⟨(some 68), (.ldc (.s 67)), none, [0]⟩,
    ⟨(some 69), (.cvi .i64 (.s 68)), none, [1]⟩,
    ⟨(some 70), (.bin .and (.s 69) (.c (.int .i64 63))), none, [2]⟩,
    ⟨(some 13), (.mv (.s 70)), none, [3, 0, 1, 2, 3]⟩] false)
  (.seq (.region [
    ⟨(some 72), (.mv (.s 0)), none, []⟩,
    ⟨(some 73), (.mv (.s 1)), none, []⟩,
    ⟨(some 74), (.mv (.s 13)), none, []⟩,
    ⟨(some 75), (.call (.c (.fn 31 [])) [(.s 72), (.s 73), (.s 74)]), none, [0, 1, 2]⟩,
    ⟨(some 71), (.mv (.s 75)), none, [3]⟩,
    ⟨(some 76), (.ext (.s 71) 0), none, [4]⟩,
    ⟨(some 77), (.ext (.s 71) 1), none, [4]⟩,
    ⟨(some 78), (.ext (.s 71) 2), none, [4]⟩,
    ⟨(some 14), (.mv (.s 76)), none, [5, 3, 0, 1, 2, 3, 4, 5]⟩,
    ⟨(some 15), (.mv (.s 77)), none, [6, 8, 0, 1, 2, 3, 4, 5, 6, 8]⟩,
    ⟨(some 16), (.mv (.s 78)), none, [7, 9, 0, 1, 2, 3, 4, 5, 6, 7, 8, 9]⟩] false)
  (.seq (.region [
    ⟨(some 79), (.mv (.s 9)), none, []⟩,
    ⟨(some 80), (.mv (.s 11)), none, []⟩,
    ⟨(some 81), (.bin .eql (.s 79) (.s 80)), none, [0, 1]⟩,
    ⟨(some 82), (.mv (.s 81)), none, [2]⟩,
    ⟨(some 83), (.mv (.s 10)), (some (82, true)), [3]⟩,
    ⟨(some 84), (.bin .eql (.s 83) (.c (.int .i64 0))), (some (82, true)), [4, 3]⟩,
    ⟨(some 85), (.pick (.s 82) (.s 84) (.c (.bool false))), none, [3, 5]⟩,
    ⟨(some 86), (.mv (.s 85)), none, [6, 3]⟩,
    ⟨(some 87), (.mv (.s 12)), (some (86, true)), [7]⟩,
    ⟨(some 88), (.bin .eql (.s 87) (.c (.int .i64 0))), (some (86, true)), [8, 7]⟩,
    ⟨(some 89), (.pick (.s 86) (.s 88) (.c (.bool false))), none, [7, 9]⟩,
    ⟨(some 90), (.mv (.s 89)), none, [10, 7]⟩,
    ⟨(some 91), (.mv (.s 16)), (some (90, true)), [11]⟩,
    ⟨(some 92), (.bin .neq (.s 91) (.c (.int .i64 0))), (some (90, true)), [12, 11]⟩,
    ⟨(some 93), (.mv (.s 13)), (some (90, true)), [11]⟩,
    ⟨(some 94), (.mv (.s 1)), (some (90, true)), [11]⟩,
    ⟨(some 95), (.bin .gtr (.s 93) (.s 94)), (some (90, true)), [14, 15, 11]⟩,
    ⟨(some 96), (.eqn .b false (.s 92) (.s 95)), (some (90, true)), [13, 16, 11]⟩,
    ⟨(some 97), (.pick (.s 90) (.s 96) (.c (.bool false))), none, [11, 17]⟩,
    ⟨(some 98), (.mv (.s 97)), none, [18, 11]⟩,
    ⟨(some 99), (.mv (.s 16)), (some (98, true)), [19]⟩,
    ⟨(some 100), (.bin .neq (.s 99) (.c (.int .i64 0))), (some (98, true)), [20, 19]⟩,
    ⟨(some 101), (.mv (.s 100)), (some (98, true)), [21, 19, 19]⟩,
    ⟨(some 102), (.mv (.s 1)), (some (101, false)), [22]⟩,
    ⟨(some 103), (.mv (.s 13)), (some (101, false)), [22]⟩,
    ⟨(some 104), (.bin .sub (.s 102) (.s 103)), (some (101, false)), [23, 24, 22]⟩,
    ⟨(some 105), (.bin .eql (.s 104) (.c (.int .i64 64))), (some (101, false)), [25, 22]⟩,
    ⟨(some 106), (.mv (.s 105)), (some (101, false)), [26, 22, 22]⟩,
    ⟨(some 107), (.mv (.s 15)), (some (106, true)), [27]⟩,
    ⟨(some 108), (.mv (.s 0)), (some (106, true)), [27]⟩,
    ⟨(some 109), (.bin .eql (.s 107) (.s 108)), (some (106, true)), [28, 29, 27]⟩,
    ⟨(some 110), (.pick (.s 106) (.s 109) (.c (.bool false))), (some (101, false)), [27, 30, 22]⟩,
    ⟨(some 111), (.pick (.s 101) (.c (.bool true)) (.s 110)), (some (98, true)), [22, 31, 19]⟩,
    ⟨(some 112), (.mv (.s 111)), (some (98, true)), [32, 27, 19]⟩,
    ⟨(some 113), (.mv (.s 1)), (some (112, false)), [33]⟩,
    ⟨(some 114), (.mv (.s 13)), (some (112, false)), [33]⟩,
    ⟨(some 115), (.bin .sub (.s 113) (.s 114)), (some (112, false)), [34, 35, 33]⟩,
    ⟨(some 116), (.bin .lss (.s 115) (.c (.int .i64 64))), (some (112, false)), [36, 33]⟩,
    ⟨(some 117), (.mv (.s 116)), (some (112, false)), [37, 33, 33]⟩,
    ⟨(some 118), (.mv (.s 14)), (some (117, true)), [38]⟩,
    ⟨(some 119), (.mv (.s 1)), (some (117, true)), [38]⟩,
    ⟨(some 120), (.mv (.s 13)), (some (117, true)), [38]⟩,
    ⟨(some 121), (.bin .sub (.s 119) (.s 120)), (some (117, true)), [40, 41, 38]⟩,
    ⟨(some 122), (.bin .shl (.s 118) (.s 121)), (some (117, true)), [39, 42, 38]⟩,
    ⟨(some 123), (.mv (.s 15)), (some (117, true)), [38]⟩,
    ⟨(some 124), (.bin .or (.s 122) (.s 123)), (some (117, true)), [43, 44, 38]⟩,
    ⟨(some 125), (.mv (.s 0)), (some (117, true)), [38]⟩,
    ⟨(some 126), (.mv (.s 1)), (some (117, true)), [38]⟩,
    ⟨(some 127), (.call (.c (.fn 35 [])) [(.s 125), (.s 126)]), (some (117, true)), [46, 47, 38, 38]⟩,
    ⟨(some 128), (.bin .eql (.s 124) (.s 127)), (some (117, true)), [45, 48, 38]⟩,
    ⟨(some 129), (.pick (.s 117) (.s 128) (.c (.bool false))), (some (112, false)), [38, 49, 33]⟩,
    ⟨(some 130), (.pick (.s 112) (.c (.bool true)) (.s 129)), (some (98, true)), [33, 50, 19]⟩,
    ⟨(some 131), (.pick (.s 98) (.s 130) (.c (.bool false))), none, [19, 51]⟩,
    ⟨(some 132), (.mv (.s 131)), none, [52, 48]⟩,
    ⟨(some 133), (.call (.c (.fn 26 [])) []), (some (132, true)), [53, 53]⟩,
    ⟨(some 134), (.pick (.s 132) (.s 133) (.c (.bool false))), none, [53, 54]⟩,
    ⟨(some 6), (.mv (.s 134)), none, [55, 54, 0, 1, 2, 3, 4, 5, 6, 7, 8, 9, 10, 11, 12, 13, 14, 15, 16, 17, 18, 19, 20, 21, 22, 23, 24, 25, 26, 27, 28, 29, 30, 31, 32, 33, 34, 35, 36, 37, 38, 39, 40, 41, 42, 43, 44, 45, 46, 47, 48, 49, 50, 51, 52, 53, 54, 55]⟩] true)
  .ret)))))))), false, (some [(Sh.int .u64), (Sh.int .i64), (Sh.ar .i16)]), (some Sh.bool)⟩

/-- euphroe/euphroelaw03.BitpKeys -/
def k14 : Fun := ⟨2, 85, [0, 1, 4, 5, 6, 7, 8, 9, 10, 11, 12, 13, 14, 17], [(.tmp 4)],
  (.seq (.region [
    ⟨(some 4), (.mv (.c (.bool false))), none, []⟩] false)
  (.seq (.seq (.region [
    ⟨(some 15), (.mv (.s 0)), none, []⟩,
    ⟨(some 16), (.len false (.s 15)), none, [0]⟩,
    ⟨(some 17), (.bin .gtr (.s 16) (.c (.int .i64 100))), none, [1]⟩] false)
  (.cond (.s 17)
   (.seq (.region [
     ⟨(some 18), (.call (.c (.fn 26 [])) []), none, []⟩,
     ⟨(some 4), (.mv (.s 18)), none, [0, 0, 0]⟩] false)
   .ret)
   .skip))
  (.seq (.region [
    ⟨(some 20), (.mv (.s 0)), none, []⟩,
    ⟨(some 21), (.call (.c (.fn 24 [])) [(.s 20)]), none, [0]⟩,
    ⟨(some 19), (.mv (.s 21)), none, [1]⟩,
    ⟨(some 22), (.ext (.s 19) 0), none, [2]⟩,
    ⟨(some 23), (.ext (.s 19) 1), none, [2]⟩,
    ⟨(some 5), (.mv (.s 22)), none, [3, 1, 0, 1, 2, 3]⟩,
    ⟨(some 6), (.mv (.s 23)), none, [4, 5, 0, 1, 2, 3, 4, 5]⟩] false)
  (.seq (.region [
    ⟨(some 25), (.mv (.s 0)), none, []⟩,
    ⟨(some 26), (.call (.c (.fn 36 [])) [(.s 25)]), none, [0]⟩,
    ⟨(some 24), (.mv (.s 26)), none, [1]⟩,
    ⟨(some 27), (.ext (.s 24) 0), none, [2]⟩,
    ⟨(some 28), (.ext (.s 24) 1), none, [2]⟩,
    ⟨(some 7), (.mv (.s 27)), none, [3, 1, 0, 1, 2, 3]⟩,
    ⟨(some 8), (.mv (.s 28)), none, [4, 5, 0, 1, 2, 3, 4, 5]⟩] false)
  (.seq (.region [
    ⟨(some 30), (.mv (.s 0)), none, []⟩,
    ⟨(some 31), (.call (.c (.fn 37 [])) [(.s 30)]), none, [0]⟩,
    ⟨(some 29), (.mv (.s 31)), none, [1]⟩,
    ⟨(some 32), (.ext (.s 29) 0), none, [2]⟩,
    ⟨(some 33), (.ext (.s 29) 1), none, [2]⟩,
    ⟨(some 9), (.mv (.s 32)), none, [3, 1, 0, 1, 2, 3]⟩,
    ⟨(some 10), (.mv (.s 33)), none, [4, 5, 0, 1, 2, 3, 4, 5]⟩] false)
  (.seq (.region [
    ⟨(some 35), (.mv (.s 0)), none, []⟩,
    ⟨(some 36), (.call (.c (.fn 38 [])) [(.s 35)]), none, [0]⟩,
    ⟨(some 34), (.mv (.s 36)), none, [1]⟩,
    ⟨(some 37), (.ext (.s 34) 0), none, [2]⟩,
    ⟨(some 38), (.ext (.s 34) 1), none, [2]⟩,
    ⟨(some 11), (.mv (.s 37)), none, [3, 1, 0, 1, 2, 3]⟩,
    ⟨(some 12), (.mv (.s 38)), none, [4, 5, 0, 1, 2, 3, 4, 5]⟩] false)
  (.seq (.region [
    ⟨(some 40), (.mv (.s 5)), none, []⟩,
    ⟨(some 41), (.call (.c (.fn 37 [])) [(.s 40)]), none, [0]⟩,
    ⟨(some 39), (.mv (.s 41)), none, [1]⟩,
    ⟨(some 42), (.ext (.s 39) 0), none, [2]⟩,
    ⟨(some 43), (.ext (.s 39) 1), none, [2]⟩,
    ⟨(some 13), (.mv (.s 42)), none, [3, 1, 0, 1, 2, 3]⟩,
    ⟨(some 14), (.mv (.s 43)), none, [4, 5, 0, 1, 2, 3, 4, 5]⟩] false)
  (.seq (.region [
    ⟨(some 44), (.mv (.s 5)), none, []⟩,
    ⟨(some 45), (.mv (.s 7)), none, []⟩,
    ⟨(some 46), (.call (.c (.fn 23 [])) [(.s 44), (.s 45)]), none, [0, 1]⟩,
    ⟨(some 47), (.mv (.s 46)), none, [2, 2]⟩,
    ⟨(some 48), (.mv (.s 6)), (some (47, true)), [3]⟩,
    ⟨(some 49), (.mv (.s 8)), (some (47, true)), [3]⟩,
    ⟨(some 50), (.bin .eql (.s 48) (.s 49)), (some (47, true)), [4, 5, 3]⟩,
    ⟨(some 51), (.pick (.s 47) (.s 50) (.c (.bool false))), none, [3, 6]⟩,
    ⟨(some 52), (.mv (.s 51)), none, [7, 3]⟩,
    ⟨(some 53), (.mv (.s 9)), (some (52, true)), [8]⟩,
    ⟨(some 54), (.mv (.s 11)), (some (52, true)), [8]⟩,
    ⟨(some 55), (.call (.c (.fn 23 [])) [(.s 53), (.s 54)]), (some (52, true)), [9, 10, 8, 8]⟩,
    ⟨(some 56), (.pick (.s 52) (.s 55) (.c (.bool false))), none, [8, 11]⟩,
    ⟨(some 57), (.mv (.s 56)), none, [12, 11]⟩,
    ⟨(some 58), (.mv (.s 10)), (some (57, true)), [13]⟩,
    ⟨(some 59), (.mv (.s 12)), (some (57, true)), [13]⟩,
    ⟨(some 60), (.bin .eql (.s 58) (.s 59)), (some (57, true)), [14, 15, 13]⟩,
    ⟨(some 61), (.pick (.s 57) (.s 60) (.c (.bool false))), none, [13, 16]⟩,
    ⟨(some 62), (.mv (.s 61)), none, [17, 13]⟩,
    ⟨(some 63), (.mv (.s 1)), (some (62, true)), [18]⟩,
    ⟨(some 64), (.call (.c (.fn 25 [])) [(.s 63)]), (some (62, true)), [19, 18, 18]⟩,
    ⟨(some 65), (.mv (.s 1)), (some (62, true)), [18]⟩,
    ⟨(some 66), (.call (.c (.fn 39 [])) [(.s 65)]), (some (62, true)), [21, 20, 18]⟩,
    ⟨(some 67), (.bin .eql (.s 64) (.s 66)), (some (62, true)), [20, 22, 18]⟩,
    ⟨(some 68), (.pick (.s 62) (.s 67) (.c (.bool false))), none, [18, 23]⟩,
    ⟨(some 69), (.mv (.s 68)), none, [24, 22]⟩,
    ⟨(some 70), (.mv (.s 6)), (some (69, true)), [25]⟩,
    ⟨(some 71), (.bin .neq (.s 70) (.c (.int .i64 0))), (some (69, true)), [26, 25]⟩,
    ⟨(some 72), (.mv (.s 71)), (some (69, true)), [27, 25, 25]⟩,
    ⟨(some 73), (.mv (.s 14)), (some (72, false)), [28]⟩,
    ⟨(some 74), (.bin .eql (.s 73) (.c (.int .i64 0))), (some (72, false)), [29, 28]⟩,
    ⟨(some 75), (.mv (.s 74)), (some (72, false)), [30, 28, 28]⟩,
    ⟨(some 76), (.mv (.s 13)), (some (75, true)), [31]⟩,
    ⟨(some 77), (.mv (.s 0)), (some (75, true)), [31]⟩,
    ⟨(some 78), (.call (.c (.fn 23 [])) [(.s 76), (.s 77)]), (some (75, true)), [32, 33, 31, 31]⟩,
    ⟨(some 79), (.pick (.s 75) (.s 78) (.c (.bool false))), (some (72, false)), [31, 34, 28]⟩,
    ⟨(some 80), (.pick (.s 72) (.c (.bool true)) (.s 79)), (some (69, true)), [28, 35, 25]⟩,
    ⟨(some 81), (.pick (.s 69) (.s 80) (.c (.bool false))), none, [25, 36]⟩,
    ⟨(some 82), (.mv (.s 81)), none, [37, 34]⟩,
    ⟨(some 83), (.call (.c (.fn 26 [])) []), (some (82, true)), [38, 38]⟩,
    ⟨(some 84), (.pick (.s 82) (.s 83) (.c (.bool false))), none, [38, 39]⟩,
    ⟨(some 4), (.mv (.s 84)), none, [40, 39, 0, 1, 2, 3, 4, 5, 6, 7, 8, 9, 10, 11, 12, 13, 14, 15, 16, 17, 18, 19, 20, 21, 22, 23, 24, 25, 26, 27, 28, 29, 30, 31, 32, 33, 34, 35, 36, 37, 38, 39, 40]⟩] false)
  .ret)))))))), false, (some [(Sh.sl (Sh.int .u8)), (Sh.int .u8)]), (some Sh.bool)⟩

/-- euphroe/euphroelaw01.OctsHex -/
def k15 : Fun := ⟨2, 46, [0, 1, 4, 5, 6, 7, 8, 16], [(.tmp 4)],
  (.seq (.region [
    ⟨(some 4), (.mv (.c (.bool false))), none, []⟩] false)
  (.seq (.seq (.region [
    ⟨(some 9), (.mv (.s 0)), none, []⟩,
    ⟨(some 10), (.len false (.s 9)), none, [0]⟩,
    ⟨(some 11), (.bin .gtr (.s 10) (.c (.int .i64 300))), none, [1]⟩,
    ⟨(some 12), (.mv (.s 11)), none, [2]⟩,
    ⟨(some 13), (.mv (.s 1)), (some (12, false)), [3]⟩,
    ⟨(some 14), (.len true (.s 13)), (some (12, false)), [4, 3]⟩,
    ⟨(some 15), (.bin .gtr (.s 14) (.c (.int .i64 300))), (some (12, false)), [5, 3]⟩,
    ⟨(some 16), (.pick (.s 12) (.c (.bool true)) (.s 15)), none, [3, 6]⟩] false)
  (.cond (.s 16)
   (.seq (.region [
     ⟨(some 17), (.call (.c (.fn 18 [])) []), none, []⟩,
     ⟨(some 4), (.mv (.s 17)), none, [0, 0, 0]⟩] false)
   .ret)
   .skip))
  (.seq (.region [
    ⟨(some 19), (.mv (.s 1)), none, []⟩,
    ⟨(some 20), (.call (.c (.fn 40 [])) [(.s 19)]), none, [0]⟩,
    ⟨(some 18), (.mv (.s 20)), none, [1]⟩,
    ⟨(some 21), (.ext (.s 18) 0), none, [2]⟩,
    ⟨(some 22), (.ext (.s 18) 1), none, [2]⟩,
    ⟨(some 5), (.mv (.s 21)), none, [3, 1, 0, 1, 2, 3]⟩,
    ⟨(some 6), (.mv (.s 22)), none, [4, 5, 0, 1, 2, 3, 4, 5]⟩] false)
  (.seq (.region [
    ⟨(some 24), (.mv (.s 1)), none, []⟩,
    ⟨(some 25), (.call (.c (.fn 41 [])) [(.s 24)]), none, [0]⟩,
    ⟨(some 23), (.mv (.s 25)), none, [1]⟩,
    ⟨(some 26), (.ext (.s 23) 0), none, [2]⟩,
    ⟨(some 27), (.ext (.s 23) 1), none, [2]⟩,
    ⟨(some 7), (.mv (.s 26)), none, [3, 1, 0, 1, 2, 3]⟩,
    ⟨(some 8), (.mv (.s 27)), none, [4, 5, 0, 1, 2, 3, 4, 5]⟩] false)
  (.seq (.region [
    ⟨(some 28), (.mv (.s 0)), none, []⟩,
    ⟨(some 29), (.call (.c (.fn 42 [])) [(.s 28)]), none, [0]⟩,
    ⟨(some 30), (.mv (.s 0)), none, []⟩,
    ⟨(some 31), (.call (.c (.fn 43 [])) [(.s 30)]), none, [2, 1]⟩,
    ⟨(some 32), (.bin .eql (.s 29) (.s 31)), none, [1, 3]⟩,
    ⟨(some 33), (.mv (.s 32)), none, [4, 3]⟩,
    ⟨(some 34), (.mv (.s 5)), (some (33, true)), [5]⟩,
    ⟨(some 35), (.mv (.s 7)), (some (33, true)), [5]⟩,
    ⟨(some 36), (.call (.c (.fn 23 [])) [(.s 34), (.s 35)]), (some (33, true)), [6, 7, 5, 5]⟩,
    ⟨(some 37), (.pick (.s 33) (.s 36) (.c (.bool false))), none, [5, 8]⟩,
    ⟨(some 38), (.mv (.s 37)), none, [9, 8]⟩,
    ⟨(some 39), (.mv (.s 6)), (some (38, true)), [10]⟩,
    ⟨(some 40), (.mv (.s 8)), (some (38, true)), [10]⟩,
    ⟨(some 41), (.bin .eql (.s 39) (.s 40)), (some (38, true)), [11, 12, 10]⟩,
    ⟨(some 42), (.pick (.s 38) (.s 41) (.c (.bool false))), none, [10, 13]⟩,
    ⟨(some 43), (.mv (.s 42)), none, [14, 10]⟩,
    ⟨(some 44), (.call (.c (.fn 18 [])) []), (some (43, true)), [15, 15]⟩,
    ⟨(some 45), (.pick (.s 43) (.s 44) (.c (.bool false))), none, [15, 16]⟩,
    ⟨(some 4), (.mv (.s 45)), none, [17, 16, 0, 1, 2, 3, 4, 5, 6, 7, 8, 9, 10, 11, 12, 13, 14, 15, 16, 17]⟩] false)
  .ret))))), false, (some [(Sh.sl (Sh.int .u8)), Sh.str]), (some Sh.bool)⟩

/-- euphroe/euphroelaw01.OctsTurns -/
def k16 : Fun := ⟨2, 81, [0, 1, 4, 5, 6, 7, 8, 9, 17], [(.tmp 4)],
  (.seq (.region [
    ⟨(some 4), (.mv (.c (.bool false))), none, []⟩] false)
  (.seq (.seq (.region [
    ⟨(some 10), (.mv (.s 0)), none, []⟩,
    ⟨(some 11), (.len false (.s 10)), none, [0]⟩,
    ⟨(some 12), (.bin .gtr (.s 11) (.c (.int .i64 300))), none, [1]⟩,
    ⟨(some 13), (.mv (.s 12)), none, [2]⟩,
    ⟨(some 14), (.mv (.s 1)), (some (13, false)), [3]⟩,
    ⟨(some 15), (.len false (.s 14)), (some (13, false)), [4, 3]⟩,
    ⟨(some 16), (.bin .gtr (.s 15) (.c (.int .i64 300))), (some (13, false)), [5, 3]⟩,
    ⟨(some 17), (.pick (.s 13) (.c (.bool true)) (.s 16)), none, [3, 6]⟩] false)
  (.cond (.s 17)
   (.seq (.region [
     ⟨(some 18), (.call (.c (.fn 18 [])) []), none, []⟩,
     ⟨(some 4), (.mv (.s 18)), none, [0, 0, 0]⟩] false)
   .ret)
   .skip))
  (.seq (.region [
    ⟨(some 20), (.mv (.s 0)), none, []⟩,
    ⟨(some 21), (.mv (.s 1)), none, []⟩,
    ⟨(some 22), (.call (.c (.fn 44 [])) [(.s 20), (.s 21)]), none, [0, 1]⟩,
    ⟨(some 19), (.mv (.s 22)), none, [2]⟩,
    ⟨(some 23), (.ext (.s 19) 0), none, [3]⟩,
    ⟨(some 24), (.ext (.s 19) 1), none, [3]⟩,
    ⟨(some 5), (.mv (.s 23)), none, [4, 2, 0, 1, 2, 3, 4]⟩,
    ⟨(some 6), (.mv (.s 24)), none, [5, 6, 0, 1, 2, 3, 4, 5, 6]⟩] false)
  (.seq (.region [
    ⟨(some 26), (.mv (.s 0)), none, []⟩,
    ⟨(some 27), (.mv (.s 1)), none, []⟩,
    ⟨(some 28), (.call (.c (.fn 45 [])) [(.s 26), (.s 27)]), none, [0, 1]⟩,
    ⟨(some 25), (.mv (.s 28)), none, [2]⟩,
    ⟨(some 29), (.ext (.s 25) 0), none, [3]⟩,
    ⟨(some 30), (.ext (.s 25) 1), none, [3]⟩,
    ⟨(some 7), (.mv (.s 29)), none, [4, 2, 0, 1, 2, 3, 4]⟩,
    ⟨(some 8), (.mv (.s 30)), none, [5, 6, 0, 1, 2, 3, 4, 5, 6]⟩] false)
  (.seq (.region [
    ⟨(some 31), (.mv (.s 0)), none, []⟩,
    ⟨(some 32), (.mv (.s 1)), none, []⟩,
    ⟨(some 33), (.bsl 3 1 (.vals [.nils, .nils, .nils]) [(0, 1, (.s 31)), (1, 1, (.c .nils)), (2, 1, (.s 32))]), none, [0, 1]⟩,
    ⟨(some 34), (.call (.c (.fn 46 [])) [(.s 33)]), none, [2]⟩,
    ⟨(some 9), (.mv (.s 34)), none, [3, 3, 0, 1, 2, 3]⟩] false)
  (.seq (.region [
    ⟨(some 35), (.mv (.s 5)), none, []⟩,
    ⟨(some 36), (.mv (.s 7)), none, []⟩,
    ⟨(some 37), (.call (.c (.fn 23 [])) [(.s 35), (.s 36)]), none, [0, 1]⟩,
    ⟨(some 38), (.mv (.s 37)), none, [2, 2]⟩,
    ⟨(some 39), (.mv (.s 6)), (some (38, true)), [3]⟩,
    ⟨(some 40), (.mv (.s 8)), (some (38, true)), [3]⟩,
    ⟨(some 41), (.bin .eql (.s 39) (.s 40)), (some (38, true)), [4, 5, 3]⟩,
    ⟨(some 42), (.pick (.s 38) (.s 41) (.c (.bool false))), none, [3, 6]⟩,
    ⟨(some 43), (.mv (.s 42)), none, [7, 3]⟩,
    ⟨(some 44), (.mv (.s 0)), (some (43, true)), [8]⟩,
    ⟨(some 45), (.mv (.s 1)), (some (43, true)), [8]⟩,
    ⟨(some 46), (.call (.c (.fn 47 [])) [(.s 44), (.s 45)]), (some (43, true)), [9, 10, 8, 8]⟩,
    ⟨(some 47), (.mv (.s 0)), (some (43, true)), [8]⟩,
    ⟨(some 48), (.mv (.s 1)), (some (43, true)), [8]⟩,
    ⟨(some 49), (.call (.c (.fn 23 [])) [(.s 47), (.s 48)]), (some (43, true)), [12, 13, 11, 8]⟩,
    ⟨(some 50), (.eqn .b false (.s 46) (.s 49)), (some (43, true)), [11, 14, 8]⟩,
    ⟨(some 51), (.pick (.s 43) (.s 50) (.c (.bool false))), none, [8, 15]⟩,
    ⟨(some 52), (.mv (.s 51)), none, [16, 14]⟩,
    ⟨(some 53), (.mv (.s 9)), (some (52, true)), [17]⟩,
    ⟨(some 54), (.len false (.s 53)), (some (52, true)), [18, 17]⟩,
    ⟨(some 55), (.mv (.s 0)), (some (52, true)), [17]⟩,
    ⟨(some 56), (.len false (.s 55)), (some (52, true)), [20, 17]⟩,
    ⟨(some 57), (.mv (.s 1)), (some (52, true)), [17]⟩,
    ⟨(some 58), (.len false (.s 57)), (some (52, true)), [22, 17]⟩,
    ⟨(some 59), (.bin .add (.s 56) (.s 58)), (some (52, true)), [21, 23, 17]⟩,
    ⟨(some 60), (.bin .eql (.s 54) (.s 59)), (some (52, true)), [19, 24, 17]⟩,
    ⟨(some 61), (.pick (.s 52) (.s 60) (.c (.bool false))), none, [17, 25]⟩,
    ⟨(some 62), (.mv (.s 61)), none, [26, 17]⟩,
    ⟨(some 63), (.mv (.s 9)), (some (62, true)), [27]⟩,
    ⟨(some 64), (.mv (.s 0)), (some (62, true)), [27]⟩,
    ⟨(some 65), (.len false (.s 64)), (some (62, true)), [29, 27]⟩,
    ⟨(some 66), (.sls 1 (.s 63) none (some (.s 65)) none), (some (62, true)), [28, 30, 27]⟩,
    ⟨(some 67), (.mv (.s 0)), (some (62, true)), [27]⟩,
    ⟨(some 68), (.call (.c (.fn 23 [])) [(.s 66), (.s 67)]), (some (62, true)), [31, 32, 27, 27]⟩,
    ⟨(some 69), (.pick (.s 62) (.s 68) (.c (.bool false))), none, [27, 33]⟩,
    ⟨(some 70), (.mv (.s 69)), none, [34, 33]⟩,
    ⟨(some 71), (.mv (.s 9)), (some (70, true)), [35]⟩,
    ⟨(some 72), (.mv (.s 0)), (some (70, true)), [35]⟩,
    ⟨(some 73), (.len false (.s 72)), (some (70, true)), [37, 35]⟩,
    ⟨(some 74), (.sls 1 (.s 71) (some (.s 73)) none none), (some (70, true)), [36, 38, 35]⟩,
    ⟨(some 75), (.mv (.s 1)), (some (70, true)), [35]⟩,
    ⟨(some 76), (.call (.c (.fn 23 [])) [(.s 74), (.s 75)]), (some (70, true)), [39, 40, 35, 35]⟩,
    ⟨(some 77), (.pick (.s 70) (.s 76) (.c (.bool false))), none, [35, 41]⟩,
    ⟨(some 78), (.mv (.s 77)), none, [42, 41]⟩,
    ⟨(some 79), (.call (.c (.fn 18 [])) []), (some (78, true)), [43, 43]⟩,
    ⟨(some 80), (.pick (.s 78) (.s 79) (.c (.bool false))), none, [43, 44]⟩,
    ⟨(some 4), (.mv (.s 80)), none, [45, 44, 0, 1, 2, 3, 4, 5, 6, 7, 8, 9, 10, 11, 12, 13, 14, 15, 16, 17, 18, 19, 20, 21, 22, 23, 24, 25, 26, 27, 28, 29, 30, 31, 32, 33, 34, 35, 36, 37, 38, 39, 40, 41, 42, 43, 44, 45]⟩] false)
  .ret)))))), false, (some [(Sh.sl (Sh.int .u8)), (Sh.sl (Sh.int .u8))]), (some Sh.bool)⟩

/-- euphroe/euphroelaw01.OctsBack -/
def k17 : Fun := ⟨3, 118, [0, 1, 2, 5, 6, 7, 8, 9, 10, 11, 12, 13, 14, 15, 16, 17, 18, 30, 76], [(.tmp 6)],
  (.seq (.region [
    ⟨(some 5), (.box (.s 2)), none, []⟩,
    ⟨(some 6), (.mv (.c (.bool false))), none, []⟩] false)
  (.seq (.region [
    ⟨(some 19), (.iaa 2 1 (.s 5) (.c (.int .i64 0))), none, []⟩,
    ⟨(some 20), (.ldc (.s 19)), none, [0]⟩,
    ⟨(some 21), (.iaa 2 1 (.s 5) (.c (.int .i64 1))), none, []⟩,
    ⟨(some 22), (.ldc (.s 21)), none, [2]⟩,
    ⟨(some 7), (.mv (.s 20)), none, [1, 0, 1]⟩,
    ⟨(some 8), (.mv (.s 22)), none, [3, 4, 0, 1, 2, 3, 4]⟩] true)
  (.seq (.seq (.region [
    ⟨(some 23), (.mv (.s 7)), none, []⟩,
    ⟨(some 24), (.len false (.s 23)), none, [0]⟩,
    ⟨(some 25), (.bin .gtr (.s 24) (.c (.int .i64 300))), none, [1]⟩,
    ⟨(some 26), (.mv (.s 25)), none, [2]⟩,
    ⟨(some 27), (.mv (.s 8)), (some (26, false)), [3]⟩,
    ⟨(some 28), (.len false (.s 27)), (some (26, false)), [4, 3]⟩,
    ⟨(some 29), (.bin .gtr (.s 28) (.c (.int .i64 300))), (some (26, false)), [5, 3]⟩,
    ⟨(some 30), (.pick (.s 26) (.c (.bool true)) (.s 29)), none, [3, 6]⟩] false)
  (.cond (.s 30)
   (.seq (.region [
     ⟨(some 31), (.call (.c (.fn 18 [])) []), none, []⟩,
     ⟨(some 6), (.mv (.s 31)), none, [0, 0, 0]⟩] false)
   .ret)
   .skip))
  (.seq (.region [
    ⟨(some 33), (.mv (.s 0)), none, []⟩,
    ⟨(some 34), (.mv (.s 1)), none, []⟩,
    ⟨(some 35), (.call (.c (.fn 19 [])) [(.s 33), (.s 34), (.c (.bool true))]), none, [0, 1]⟩,
    ⟨(some 32), (.mv (.s 35)), none, [2]⟩,
    ⟨(some 36), (.ext (.s 32) 0), none, [3]⟩,
    ⟨(some 37), (.ext (.s 32) 1), none, [3]⟩,
    ⟨(some 9), (.mv (.s 36)), none, [4, 2, 0, 1, 2, 3, 4]⟩,
    ⟨(some 10), (.mv (.s 37)), none, [5, 6, 0, 1, 2, 3, 4, 5, 6]⟩] false)
  (.seq (.region [
    ⟨(some 39), (.mv (.s 9)), none, []⟩,
    ⟨(some 40), (.call (.c (.fn 21 [])) [(.s 39), (.c (.bool true))]), none, [0]⟩,
    ⟨(some 38), (.mv (.s 40)), none, [1]⟩,
    ⟨(some 41), (.ext (.s 38) 0), none, [2]⟩,
    ⟨(some 42), (.ext (.s 38) 1), none, [2]⟩,
    ⟨(some 11), (.mv (.s 41)), none, [3, 1, 0, 1, 2, 3]⟩,
    ⟨(some 12), (.mv (.s 42)), none, [4, 5, 0, 1, 2, 3, 4, 5]⟩] false)
  (.seq (.seq (.region [
    ⟨(some 43), (.mv (.s 10)), none, []⟩,
    ⟨(some 44), (.bin .eql (.s 43) (.c (.int .i64 0))), none, [0]⟩,
    ⟨(some 45), (.mv (.s 44)), none, [1]⟩,
    ⟨(some 46), (.mv (.s 12)), (some (45, true)), [2]⟩,
    ⟨(some 47), (.bin .neq (.s 46) (.c (.int .i64 0))), (some (45, true)), [3, 2]⟩,
    ⟨(some 48), (.mv (.s 47)), (some (45, true)), [4, 2, 2]⟩,
    ⟨(some 49), (.mv (.s 1)), (some (48, false)), [5]⟩,
    ⟨(some 50), (.bin .eql (.s 49) (.c (.int .i64 8))), (some (48, false)), [6, 5]⟩,
    ⟨(some 51), (.mv (.s 50)), (some (48, false)), [7, 5, 5]⟩,
    ⟨(some 52), (.mv (.s 11)), (some (51, true)), [8]⟩,
    ⟨(some 53), (.mv (.s 0)), (some (51, true)), [8]⟩,
    ⟨(some 54), (.bin .neq (.s 52) (.s 53)), (some (51, true)), [9, 10, 8]⟩,
    ⟨(some 55), (.pick (.s 51) (.s 54) (.c (.bool false))), (some (48, false)), [8, 11, 5]⟩,
    ⟨(some 56), (.pick (.s 48) (.c (.bool true)) (.s 55)), (some (45, true)), [5, 12, 2]⟩,
    ⟨(some 57), (.mv (.s 56)), (some (45, true)), [13, 8, 2]⟩,
    ⟨(some 58), (.mv (.s 1)), (some (57, false)), [14]⟩,
    ⟨(some 59), (.bin .lss (.s 58) (.c (.int .i64 8))), (some (57, false)), [15, 14]⟩,
    ⟨(some 60), (.mv (.s 59)), (some (57, false)), [16, 14, 14]⟩,
    ⟨(some 61), (.mv (.s 11)), (some (60, true)), [17]⟩,
    ⟨(some 62), (.mv (.s 0)), (some (60, true)), [17]⟩,
    ⟨(some 63), (.mv (.s 1)), (some (60, true)), [17]⟩,
    ⟨(some 64), (.bin .mul (.c (.int .i64 8)) (.s 63)), (some (60, true)), [20, 17]⟩,
    ⟨(some 65), (.bin .shl (.c (.int .u64 1)) (.s 64)), (some (60, true)), [21, 17]⟩,
    ⟨(some 66), (.bin .rem (.s 62) (.s 65)), (some (60, true)), [19, 22, 17]⟩,
    ⟨(some 67), (.bin .neq (.s 61) (.s 66)), (some (60, true)), [18, 23, 17]⟩,
    ⟨(some 68), (.pick (.s 60) (.s 67) (.c (.bool false))), (some (57, false)), [17, 24, 14]⟩,
    ⟨(some 69), (.pick (.s 57) (.c (.bool true)) (.s 68)), (some (45, true)), [14, 25, 2]⟩,
    ⟨(some 70), (.mv (.s 69)), (some (45, true)), [26, 17, 2]⟩,
    ⟨(some 71), (.mv (.s 9)), (some (70, false)), [27]⟩,
    ⟨(some 72), (.len false (.s 71)), (some (70, false)), [28, 27]⟩,
    ⟨(some 73), (.mv (.s 1)), (some (70, false)), [27]⟩,
    ⟨(some 74), (.bin .neq (.s 72) (.s 73)), (some (70, false)), [29, 30, 27]⟩,
    ⟨(some 75), (.pick (.s 70) (.c (.bool true)) (.s 74)), (some (45, true)), [27, 31, 2]⟩,
    ⟨(some 76), (.pick (.s 45) (.s 75) (.c (.bool false))), none, [2, 32]⟩] false)
  (.cond (.s 76)
   (.seq (.region [
     ⟨(some 6), (.mv (.c (.bool false))), none, []⟩] false)
   .ret)
   .skip))
  (.seq (.region [
    ⟨(some 78), (.mv (.s 7)), none, []⟩,
    ⟨(some 79), (.mv (.s 8)), none, []⟩,
    ⟨(some 80), (.call (.c (.fn 44 [])) [(.s 78), (.s 79)]), none, [0, 1]⟩,
    ⟨(some 77), (.mv (.s 80)), none, [2]⟩,
    ⟨(some 81), (.ext (.s 77) 0), none, [3]⟩,
    ⟨(some 82), (.ext (.s 77) 1), none, [3]⟩,
    ⟨(some 13), (.mv (.s 81)), none, [4, 2, 0, 1, 2, 3, 4]⟩,
    ⟨(some 14), (.mv (.s 82)), none, [5, 6, 0, 1, 2, 3, 4, 5, 6]⟩] false)
  (.seq (.region [
    ⟨(some 84), (.mv (.s 13)), none, []⟩,
    ⟨(some 85), (.mv (.s 8)), none, []⟩,
    ⟨(some 86), (.call (.c (.fn 44 [])) [(.s 84), (.s 85)]), none, [0, 1]⟩,
    ⟨(some 83), (.mv (.s 86)), none, [2]⟩,
    ⟨(some 87), (.ext (.s 83) 0), none, [3]⟩,
    ⟨(some 88), (.ext (.s 83) 1), none, [3]⟩,
    ⟨(some 15), (.mv (.s 87)), none, [4, 2, 0, 1, 2, 3, 4]⟩,
    ⟨(some 16), (.mv (.s 88)), none, [5, 6, 0, 1, 2, 3, 4, 5, 6]⟩] false)
  (.seq (.region [
    ⟨(some 90), (.mv (.s 7)), none, []⟩,
    ⟨(some 91), (.call (.c (.fn 42 [])) [(.s 90)]), none, [0]⟩,
    ⟨(some 92), (.call (.c (.fn 40 [])) [(.s 91)]), none, [1, 1]⟩,
    ⟨(some 89), (.mv (.s 92)), none, [2]⟩,
    ⟨(some 93), (.ext (.s 89) 0), none, [3]⟩,
    ⟨(some 94), (.ext (.s 89) 1), none, [3]⟩,
    ⟨(some 17), (.mv (.s 93)), none, [4, 2, 0, 1, 2, 3, 4]⟩,
    ⟨(some 18), (.mv (.s 94)), none, [5, 6, 0, 1, 2, 3, 4, 5, 6]⟩] false)
  (.seq (.region [
    ⟨(some 95), (.mv (.s 14)), none, []⟩,
    ⟨(some 96), (.bin .neq (.s 95) (.c (.int .i64 0))), none, [0]⟩,
    ⟨(some 97), (.mv (.s 96)), none, [1]⟩,
    ⟨(some 98), (.mv (.s 16)), (some (97, false)), [2]⟩,
    ⟨(some 99), (.bin .eql (.s 98) (.c (.int .i64 0))), (some (97, false)), [3, 2]⟩,
    ⟨(some 100), (.mv (.s 99)), (some (97, false)), [4, 2, 2]⟩,
    ⟨(some 101), (.mv (.s 15)), (some (100, true)), [5]⟩,
    ⟨(some 102), (.mv (.s 7)), (some (100, true)), [5]⟩,
    ⟨(some 103), (.call (.c (.fn 23 [])) [(.s 101), (.s 102)]), (some (100, true)), [6, 7, 5, 5]⟩,
    ⟨(some 104), (.pick (.s 100) (.s 103) (.c (.bool false))), (some (97, false)), [5, 8, 2]⟩,
    ⟨(some 105), (.pick (.s 97) (.c (.bool true)) (.s 104)), none, [2, 9]⟩,
    ⟨(some 106), (.mv (.s 105)), none, [10, 8]⟩,
    ⟨(some 107), (.mv (.s 17)), (some (106, true)), [11]⟩,
    ⟨(some 108), (.mv (.s 7)), (some (106, true)), [11]⟩,
    ⟨(some 109), (.call (.c (.fn 23 [])) [(.s 107), (.s 108)]), (some (106, true)), [12, 13, 11, 11]⟩,
    ⟨(some 110), (.pick (.s 106) (.s 109) (.c (.bool false))), none, [11, 14]⟩,
    ⟨(some 111), (.mv (.s 110)), none, [15, 14]⟩,
    ⟨(some 112), (.mv (.s 18)), (some (111, true)), [16]⟩,
    ⟨(some 113), (.bin .eql (.s 112) (.c (.int .i64 0))), (some (111, true)), [17, 16]⟩,
    ⟨(some 114), (.pick (.s 111) (.s 113) (.c (.bool false))), none, [16, 18]⟩,
    ⟨(some 115), (.mv (.s 114)), none, [19, 16]⟩,
    ⟨(some 116), (.call (.c (.fn 18 [])) []), (some (115, true)), [20, 20]⟩,
    ⟨(some 117), (.pick (.s 115) (.s 116) (.c (.bool false))), none, [20, 21]⟩,
    ⟨(some 6), (.mv (.s 117)), none, [22, 21, 0, 1, 2, 3, 4, 5, 6, 7, 8, 9, 10, 11, 12, 13, 14, 15, 16, 17, 18, 19, 20, 21, 22]⟩] false)
  .ret)))))))))), false, (some [(Sh.int .u64), (Sh.int .i64), (Sh.st (Sh.pr (Sh.sl (Sh.int .u8)) (Sh.sl (Sh.int .u8))))]), (some Sh.bool)⟩

/-- euphroe/euphroelaw01.alive -/
def k18 : Fun := ⟨0, 54, [0, 1, 2, 3, 4, 5, 6], [(.tmp 0)],
  (.seq (.region [
    ⟨(some 0), (.mv (.c (.bool false))), none, []⟩] false)
  (.seq (.region [
    ⟨(some 8), (.call (.c (.fn 19 [])) [(.c (.int .u64 258)), (.c (.int .i64 2)), (.c (.bool false))]), none, []⟩,
    ⟨(some 7), (.mv (.s 8)), none, [0]⟩,
    ⟨(some 9), (.ext (.s 7) 0), none, [1]⟩,
    ⟨(some 10), (.ext (.s 7) 1), none, [1]⟩,
    ⟨(some 1), (.mv (.s 9)), none, [2, 0, 0, 1, 2]⟩,
    ⟨(some 2), (.mv (.s 10)), none, [3, 4, 0, 1, 2, 3, 4]⟩] false)
  (.seq (.region [
    ⟨(some 12), (.call (.c (.fn 19 [])) [(.c (.int .u64 258)), (.c (.int .i64 2)), (.c (.bool true))]), none, []⟩,
    ⟨(some 11), (.mv (.s 12)), none, [0]⟩,
    ⟨(some 13), (.ext (.s 11) 0), none, [1]⟩,
    ⟨(some 14), (.ext (.s 11) 1), none, [1]⟩,
    ⟨(some 3), (.mv (.s 13)), none, [2, 0, 0, 1, 2]⟩,
    ⟨(some 4), (.mv (.s 14)), none, [3, 4, 0, 1, 2, 3, 4]⟩] false)
  (.seq (.region [
    ⟨(some 16), (.mv (.s 1)), none, []⟩,
    ⟨(some 17), (.call (.c (.fn 21 [])) [(.s 16), (.c (.bool false))]), none, [0]⟩,
    ⟨(some 15), (.mv (.s 17)), none, [1]⟩,
    ⟨(some 18), (.ext (.s 15) 0), none, [2]⟩,
    ⟨(some 19), (.ext (.s 15) 1), none, [2]⟩,
    ⟨(some 5), (.mv (.s 18)), none, [3, 1, 0, 1, 2, 3]⟩,
    ⟨(some 6), (.mv (.s 19)), none, [4, 5, 0, 1, 2, 3, 4, 5]⟩] false)
  (.seq (.region [
    ⟨(some 20), (.mv (.s 1)), none, []⟩,
    ⟨(some 21), (.b2s (.s 20)), none, [0]⟩,
    ⟨(some 22), (.bin .eql (.s 21) (.c (.str [1, 2]))), none, [1]⟩,
    ⟨(some 23), (.mv (.s 22)), none, [2]⟩,
    ⟨(some 24), (.mv (.s 2)), (some (23, true)), [3]⟩,
    ⟨(some 25), (.bin .eql (.s 24) (.c (.int .i64 0))), (some (23, true)), [4, 3]⟩,
    ⟨(some 26), (.pick (.s 23) (.s 25) (.c (.bool false))), none, [3, 5]⟩,
    ⟨(some 27), (.mv (.s 26)), none, [6, 3]⟩,
    ⟨(some 28), (.mv (.s 3)), (some (27, true)), [7]⟩,
    ⟨(some 29), (.b2s (.s 28)), (some (27, true)), [8, 7]⟩,
    ⟨(some 30), (.bin .eql (.s 29) (.c (.str [2, 1]))), (some (27, true)), [9, 7]⟩,
    ⟨(some 31), (.pick (.s 27) (.s 30) (.c (.bool false))), none, [7, 10]⟩,
    ⟨(some 32), (.mv (.s 31)), none, [11, 7]⟩,
    ⟨(some 33), (.mv (.s 4)), (some (32, true)), [12]⟩,
    ⟨(some 34), (.bin .eql (.s 33) (.c (.int .i64 0))), (some (32, true)), [13, 12]⟩,
    ⟨(some 35), (.pick (.s 32) (.s 34) (.c (.bool false))), none, [12, 14]⟩,
    ⟨(some 36), (.mv (.s 35)), none, [15, 12]⟩,
    ⟨(some 37), (.mv (.s 5)), (some (36, true)), [16]⟩,
    ⟨(some 38), (.bin .eql (.s 37) (.c (.int .u64 258))), (some (36, true)), [17, 16]⟩,
    ⟨(some 39), (.pick (.s 36) (.s 38) (.c (.bool false))), none, [16, 18]⟩,
    ⟨(some 40), (.mv (.s 39)), none, [19, 16]⟩,
    ⟨(some 41), (.mv (.s 6)), (some (40, true)), [20]⟩,
    ⟨(some 42), (.bin .eql (.s 41) (.c (.int .i64 0))), (some (40, true)), [21, 20]⟩,
    ⟨(some 43), (.pick (.s 40) (.s 42) (.c (.bool false))), none, [20, 22]⟩,
    ⟨(some 44), (.mv (.s 43)), none, [23, 20]⟩,
    ⟨(some 45), (.bsl 1 1 (.ints .u8 [0]) [(0, 1, (.c (.int .u8 171)))]), (some (44, true)), [24]⟩,
    ⟨(some 46), (.call (.c (.fn 42 [])) [(.s 45)]), (some (44, true)), [25, 24, 24]⟩,
    ⟨(some 47), (.bin .eql (.s 46) (.c (.str [65, 66]))), (some (44, true)), [26, 24]⟩,
    ⟨(some 48), (.pick (.s 44) (.s 47) (.c (.bool false))), none, [24, 27]⟩,
    ⟨(some 49), (.mv (.s 48)), none, [28, 26]⟩,
    ⟨(some 50), (.mv (.s 1)), (some (49, true)), [29]⟩,
    ⟨(some 51), (.mv (.s 1)), (some (49, true)), [29]⟩,
    ⟨(some 52), (.call (.c (.fn 47 [])) [(.s 50), (.s 51)]), (some (49, true)), [30, 31, 29, 29]⟩,
    ⟨(some 53), (.pick (.s 49) (.s 52) (.c (.bool false))), none, [29, 32]⟩,
    ⟨(some 0), (.mv (.s 53)), none, [33, 32, 0, 1, 2, 3, 4, 5, 6, 7, 8, 9, 10, 11, 12, 13, 14, 15, 16, 17, 18, 19, 20, 21, 22, 23, 24, 25, 26, 27, 28, 29, 30, 31, 32, 33]⟩] false)
  .ret))))), false, (some []), (some Sh.bool)⟩

/-- euphroe/octs.Put -/
def k19 : Fun := ⟨3, 37, [0, 1, 2, 6, 7, 8, 9, 15, 19, 20, 21, 33], [(.tmp 6), (.tmp 7)],
  (.seq (.region [
    ⟨(some 6), (.mv (.c .nils)), none, []⟩,
    ⟨(some 7), (.mv (.c (.int .i64 0))), none, [0]⟩] false)
  (.seq (.seq (.region [
    ⟨(some 10), (.mv (.s 1)), none, []⟩,
    ⟨(some 11), (.bin .lss (.s 10) (.c (.int .i64 1))), none, [0]⟩,
    ⟨(some 12), (.mv (.s 11)), none, [1]⟩,
    ⟨(some 13), (.mv (.s 1)), (some (12, false)), [2]⟩,
    ⟨(some 14), (.bin .gtr (.s 13) (.c (.int .i64 8))), (some (12, false)), [3, 2]⟩,
    ⟨(some 15), (.pick (.s 12) (.c (.bool true)) (.s 14)), none, [2, 4]⟩] false)
  (.cond (.s 15)
   (.seq (.region [
     ⟨(some 6), (.mv (.c .nils)), none, []⟩,
     ⟨(some 7), (.mv (.c (.int .i64 1))), none, [0, 0]⟩] false)
   .ret)
   .skip))
  (.seq (.region [
    ⟨(some 16), (.mv (.s 1)), none, []⟩,
    ⟨(some 17), (.mks (.ints .u8 [0]) 1 1 (.s 16) (.s 16)), none, [0, 0]⟩,
    ⟨(some 8), (.mv (.s 17)), none, [1, 0, 1]⟩] false)
  (.seq (.seq (.region [
    ⟨(some 18), (.mv (.s 8)), none, []⟩,
    ⟨(some 19), (.len false (.s 18)), none, [0]⟩,
    ⟨(some 20), (.mv (.c (.int .i64 0))), none, []⟩] false)
  (.block 0
   (.loop ⟨0, [], false, [0, 2, 8, 19, 20], []⟩
    (.seq (.region [
      ⟨(some 21), (.bin .lss (.s 20) (.s 19)), none, []⟩] false)
    (.seq (.cond (.s 21)
     .skip
     (.pre ⟨0, [], false, [2, 8], []⟩ (.exit 0)))
    (.seq (.block 1
     (.seq (.region [
       ⟨(some 22), (.mv (.s 20)), none, []⟩,
       ⟨(some 9), (.mv (.s 22)), none, [0, 0]⟩] false)
     (.region [
       ⟨(some 23), (.mv (.s 8)), none, []⟩,
       ⟨(some 24), (.mv (.s 9)), none, []⟩,
       ⟨(some 25), (.mv (.s 0)), none, []⟩,
       ⟨(some 26), (.mv (.s 9)), none, []⟩,
       ⟨(some 27), (.bin .mul (.c (.int .i64 8)) (.s 26)), none, [3]⟩,
       ⟨(some 28), (.bin .shr (.s 25) (.s 27)), none, [2, 4]⟩,
       ⟨(some 29), (.cvi .u8 (.s 28)), none, [5]⟩,
       ⟨(some 30), (.iad 1 (.s 23) (.s 24)), none, [0, 1, 0, 1, 2, 3, 4, 5, 6]⟩,
       ⟨none, (.stc 1 (.s 30) (.s 29)), none, [7, 6, 0, 1, 2, 3, 4, 5, 6]⟩] false)))
    (.region [
      ⟨(some 31), (.bin .add (.s 20) (.c (.int .i64 1))), none, []⟩,
      ⟨(some 20), (.mv (.s 31)), none, [0]⟩] false)))))))
  (.seq (.seq (.region [
    ⟨(some 32), (.mv (.s 2)), none, []⟩,
    ⟨(some 33), (.un .not (.s 32)), none, [0]⟩] false)
  (.cond (.s 33)
   (.region [
     ⟨(some 34), (.mv (.s 8)), none, []⟩,
     ⟨(some 35), (.call (.c (.fn 48 [])) [(.s 34)]), none, [0]⟩] false)
   .skip))
  (.seq (.region [
    ⟨(some 36), (.mv (.s 8)), none, []⟩,
    ⟨(some 6), (.mv (.s 36)), none, [0, 0]⟩,
    ⟨(some 7), (.mv (.c (.int .i64 0))), none, [1, 0, 1]⟩] false)
  .ret)))))), false, (some [(Sh.int .u64), (Sh.int .i64), Sh.bool]), (some (Sh.tu (Sh.pr (Sh.sl (Sh.int .u8)) (Sh.int .i64))))⟩

/-- euphroe/euphroeref01.Put -/
def k20 : Fun := ⟨3, 22, [0, 1, 2, 6, 7, 13, 14], [(.tmp 6), (.tmp 7)],
  (.seq (.region [
    ⟨(some 6), (.mv (.c .nils)), none, []⟩,
    ⟨(some 7), (.mv (.c (.int .i64 0))), none, [0]⟩] false)
  (.seq (.seq (.region [
    ⟨(some 8), (.mv (.s 1)), none, []⟩,
    ⟨(some 9), (.bin .lss (.s 8) (.c (.int .i64 1))), none, [0]⟩,
    ⟨(some 10), (.mv (.s 9)), none, [1]⟩,
    ⟨(some 11), (.mv (.s 1)), (some (10, false)), [2]⟩,
    ⟨(some 12), (.bin .gtr (.s 11) (.c (.int .i64 8))), (some (10, false)), [3, 2]⟩,
    ⟨(some 13), (.pick (.s 10) (.c (.bool true)) (.s 12)), none, [2, 4]⟩] false)
  (.cond (.s 13)
   (.seq (.region [
     ⟨(some 6), (.mv (.c .nils)), none, []⟩,
     ⟨(some 7), (.mv (.c (.int .i64 1))), none, [0, 0]⟩] false)
   .ret)
   .skip))
  (.seq (.seq (.region [
    ⟨(some 14), (.mv (.s 2)), none, []⟩] false)
  (.cond (.s 14)
   (.seq (.region [
     ⟨(some 15), (.mv (.s 0)), none, []⟩,
     ⟨(some 16), (.mv (.s 1)), none, []⟩,
     ⟨(some 17), (.call (.c (.fn 50 [])) [(.s 15), (.s 16)]), none, [0, 1]⟩,
     ⟨(some 18), (.call (.c (.fn 49 [])) [(.s 17)]), none, [2, 2]⟩,
     ⟨(some 6), (.mv (.s 18)), none, [3, 3, 0, 1, 2, 3]⟩,
     ⟨(some 7), (.mv (.c (.int .i64 0))), none, [4, 0, 1, 2, 3, 4]⟩] false)
   .ret)
   .skip))
  (.seq (.region [
    ⟨(some 19), (.mv (.s 0)), none, []⟩,
    ⟨(some 20), (.mv (.s 1)), none, []⟩,
    ⟨(some 21), (.call (.c (.fn 50 [])) [(.s 19), (.s 20)]), none, [0, 1]⟩,
    ⟨(some 6), (.mv (.s 21)), none, [2, 2, 0, 1, 2]⟩,
    ⟨(some 7), (.mv (.c (.int .i64 0))), none, [3, 0, 1, 2, 3]⟩] false)
  .ret)))), false, (some [(Sh.int .u64), (Sh.int .i64), Sh.bool]), (some (Sh.tu (Sh.pr (Sh.sl (Sh.int .u8)) (Sh.int .i64))))⟩

/-- euphroe/octs.Get -/
def k21 : Fun := ⟨2, 39, [0, 1, 4, 5, 6, 7, 8, 16, 17, 18, 19, 20, 24], [(.tmp 4), (.tmp 5)],
  (.seq (.region [
    ⟨(some 4), (.mv (.c (.int .u64 0))), none, []⟩,
    ⟨(some 5), (.mv (.c (.int .i64 0))), none, [0]⟩] false)
  (.seq (.seq (.region [
    ⟨(some 9), (.mv (.s 0)), none, []⟩,
    ⟨(some 10), (.len false (.s 9)), none, [0]⟩,
    ⟨(some 11), (.bin .lss (.s 10) (.c (.int .i64 1))), none, [1]⟩,
    ⟨(some 12), (.mv (.s 11)), none, [2]⟩,
    ⟨(some 13), (.mv (.s 0)), (some (12, false)), [3]⟩,
    ⟨(some 14), (.len false (.s 13)), (some (12, false)), [4, 3]⟩,
    ⟨(some 15), (.bin .gtr (.s 14) (.c (.int .i64 8))), (some (12, false)), [5, 3]⟩,
    ⟨(some 16), (.pick (.s 12) (.c (.bool true)) (.s 15)), none, [3, 6]⟩] false)
  (.cond (.s 16)
   (.seq (.region [
     ⟨(some 4), (.mv (.c (.int .u64 0))), none, []⟩,
     ⟨(some 5), (.mv (.c (.int .i64 1))), none, [0, 0]⟩] false)
   .ret)
   .skip))
  (.seq (.region [
    ⟨(some 6), (.mv (.c (.int .u64 0))), none, []⟩] false)
  (.seq (.seq (.region [
    ⟨(some 17), (.mv (.s 0)), none, []⟩,
    ⟨(some 18), (.len false (.s 17)), none, [0]⟩,
    ⟨(some 19), (.mv (.c (.int .i64 0))), none, []⟩] false)
  (.block 0
   (.loop ⟨0, [], false, [1, 6, 17, 18, 19], []⟩
    (.seq (.region [
      ⟨(some 20), (.bin .lss (.s 19) (.s 18)), none, []⟩] false)
    (.seq (.cond (.s 20)
     .skip
     (.pre ⟨0, [], false, [6], []⟩ (.exit 0)))
    (.seq (.block 1
     (.seq (.region [
       ⟨(some 21), (.mv (.s 19)), none, []⟩,
       ⟨(some 22), (.iad 1 (.s 17) (.s 19)), none, []⟩,
       ⟨(some 23), (.ldc (.s 22)), none, [1]⟩,
       ⟨(some 7), (.mv (.s 21)), none, [0, 0, 1, 2]⟩,
       ⟨(some 8), (.mv (.s 23)), none, [2, 3, 0, 1, 2, 3]⟩] false)
     (.seq (.region [
       ⟨(some 24), (.mv (.s 1)), none, []⟩] false)
     (.cond (.s 24)
      (.region [
        ⟨(some 25), (.mv (.s 6)), none, []⟩,
        ⟨(some 26), (.mv (.s 8)), none, []⟩,
        ⟨(some 27), (.cvi .u64 (.s 26)), none, [1]⟩,
        ⟨(some 28), (.mv (.s 7)), none, []⟩,
        ⟨(some 29), (.bin .mul (.c (.int .i64 8)) (.s 28)), none, [3]⟩,
        ⟨(some 30), (.bin .shl (.s 27) (.s 29)), none, [2, 4]⟩,
        ⟨(some 31), (.bin .or (.s 25) (.s 30)), none, [0, 5]⟩,
        ⟨(some 6), (.mv (.s 31)), none, [6, 0, 1, 2, 3, 4, 5, 6]⟩] false)
      (.region [
        ⟨(some 32), (.mv (.s 6)), none, []⟩,
        ⟨(some 33), (.bin .shl (.s 32) (.c (.int .u64 8))), none, [0]⟩,
        ⟨(some 34), (.mv (.s 8)), none, []⟩,
        ⟨(some 35), (.cvi .u64 (.s 34)), none, [2]⟩,
        ⟨(some 36), (.bin .or (.s 33) (.s 35)), none, [1, 3]⟩,
        ⟨(some 6), (.mv (.s 36)), none, [4, 0, 1, 2, 3, 4]⟩] false)))))
    (.region [
      ⟨(some 37), (.bin .add (.s 19) (.c (.int .i64 1))), none, []⟩,
      ⟨(some 19), (.mv (.s 37)), none, [0]⟩] false)))))))
  (.seq (.region [
    ⟨(some 38), (.mv (.s 6)), none, []⟩,
    ⟨(some 4), (.mv (.s 38)), none, [0, 0]⟩,
    ⟨(some 5), (.mv (.c (.int .i64 0))), none, [1, 0, 1]⟩] false)
  .ret))))), false, (some [(Sh.sl (Sh.int .u8)), Sh.bool]), (some (Sh.tu (Sh.pr (Sh.int .u64) (Sh.int .i64))))⟩

/-- euphroe/euphroeref01.Get -/
def k22 : Fun := ⟨2, 20, [0, 1, 4, 5, 13, 14], [(.tmp 4), (.tmp 5)],
  (.seq (.region [
    ⟨(some 4), (.mv (.c (.int .u64 0))), none, []⟩,
    ⟨(some 5), (.mv (.c (.int .i64 0))), none, [0]⟩] false)
  (.seq (.seq (.region [
    ⟨(some 6), (.mv (.s 0)), none, []⟩,
    ⟨(some 7), (.len false (.s 6)), none, [0]⟩,
    ⟨(some 8), (.bin .lss (.s 7) (.c (.int .i64 1))), none, [1]⟩,
    ⟨(some 9), (.mv (.s 8)), none, [2]⟩,
    ⟨(some 10), (.mv (.s 0)), (some (9, false)), [3]⟩,
    ⟨(some 11), (.len false (.s 10)), (some (9, false)), [4, 3]⟩,
    ⟨(some 12), (.bin .gtr (.s 11) (.c (.int .i64 8))), (some (9, false)), [5, 3]⟩,
    ⟨(some 13), (.pick (.s 9) (.c (.bool true)) (.s 12)), none, [3, 6]⟩] false)
  (.cond (.s 13)
   (.seq (.region [
     ⟨(some 4), (.mv (.c (.int .u64 0))), none, []⟩,
     ⟨(some 5), (.mv (.c (.int .i64 1))), none, [0, 0]⟩] false)
   .ret)
   .skip))
  (.seq (.seq (.region [
    ⟨(some 14), (.mv (.s 1)), none, []⟩] false)
  (.cond (.s 14)
   (.seq (.region [
     ⟨(some 15), (.mv (.s 0)), none, []⟩,
     ⟨(some 16), (.call (.c (.fn 49 [])) [(.s 15)]), none, [0]⟩,
     ⟨(some 17), (.call (.c (.fn 51 [])) [(.s 16)]), none, [1, 1]⟩,
     ⟨(some 4), (.mv (.s 17)), none, [2, 2, 0, 1, 2]⟩,
     ⟨(some 5), (.mv (.c (.int .i64 0))), none, [3, 0, 1, 2, 3]⟩] false)
   .ret)
   .skip))
  (.seq (.region [
    ⟨(some 18), (.mv (.s 0)), none, []⟩,
    ⟨(some 19), (.call (.c (.fn 51 [])) [(.s 18)]), none, [0]⟩,
    ⟨(some 4), (.mv (.s 19)), none, [1, 1, 0, 1]⟩,
    ⟨(some 5), (.mv (.c (.int .i64 0))), none, [2, 0, 1, 2]⟩] false)
  .ret)))), false, (some [(Sh.sl (Sh.int .u8)), Sh.bool]), (some (Sh.tu (Sh.pr (Sh.int .u64) (Sh.int .i64))))⟩

/-- euphroe/euphroeref01.Same -/
def k23 : Fun := ⟨2, 26, [0, 1, 4, 5, 10, 14, 25], [(.tmp 4)],
  (.seq (.region [
    ⟨(some 4), (.mv (.c (.bool false))), none, []⟩] false)
  (.seq (.seq (.region [
    ⟨(some 6), (.mv (.s 0)), none, []⟩,
    ⟨(some 7), (.len false (.s 6)), none, [0]⟩,
    ⟨(some 8), (.mv (.s 1)), none, []⟩,
    ⟨(some 9), (.len false (.s 8)), none, [2]⟩,
    ⟨(some 10), (.bin .neq (.s 7) (.s 9)), none, [1, 3]⟩] false)
  (.cond (.s 10)
   (.seq (.region [
     ⟨(some 4), (.mv (.c (.bool false))), none, []⟩] false)
   .ret)
   .skip))
  (.seq (.seq (.region [
    ⟨(some 5), (.mv (.c (.int .i64 0))), none, []⟩] false)
  (.block 0
   (.loop ⟨0, [], false, [0, 1, 5], []⟩
    (.seq (.seq (.region [
      ⟨(some 11), (.mv (.s 5)), none, []⟩,
      ⟨(some 12), (.mv (.s 0)), none, []⟩,
      ⟨(some 13), (.len false (.s 12)), none, [1]⟩,
      ⟨(some 14), (.bin .lss (.s 11) (.s 13)), none, [0, 2]⟩] false)
    (.cond (.s 14)
     .skip
     (.pre ⟨0, [], false, [], []⟩ (.exit 0))))
    (.seq (.block 1
     (.seq (.region [
       ⟨(some 17), (.mv (.s 0)), none, []⟩,
       ⟨(some 18), (.mv (.s 5)), none, []⟩,
       ⟨(some 19), (.iad 1 (.s 17) (.s 18)), none, [0, 1]⟩,
       ⟨(some 20), (.ldc (.s 19)), none, [2]⟩,
       ⟨(some 21), (.mv (.s 1)), none, []⟩,
       ⟨(some 22), (.mv (.s 5)), none, []⟩,
       ⟨(some 23), (.iad 1 (.s 21) (.s 22)), none, [4, 5]⟩,
       ⟨(some 24), (.ldc (.s 23)), none, [6]⟩,
       ⟨(some 25), (.bin .neq (.s 20) (.s 24)), none, [3, 7]⟩] true)
     (.cond (.s 25)
      (.seq (.region [
        ⟨(some 4), (.mv (.c (.bool false))), none, []⟩] false)
      .ret)
      .skip)))
    (.region [
      ⟨(some 15), (.mv (.s 5)), none, []⟩,
      ⟨(some 16), (.bin .add (.s 15) (.c (.int .i64 1))), none, [0]⟩,
      ⟨(some 5), (.mv (.s 16)), none, [1, 0, 1]⟩] false))))))
  (.seq (.region [
    ⟨(some 4), (.mv (.c (.bool true))), none, []⟩] false)
  .ret)))), false, (some [(Sh.sl (Sh.int .u8)), (Sh.sl (Sh.int .u8))]), (some Sh.bool)⟩

/-- euphroe/bitp.Spread -/
def k24 : Fun := ⟨1, 43, [0, 2, 3, 4, 6, 7, 8, 11, 12, 13, 14, 15, 26, 27, 28], [(.tmp 2), (.tmp 3)],
  (.seq (.region [
    ⟨(some 2), (.mv (.c .nils)), none, []⟩,
    ⟨(some 3), (.mv (.c (.int .i64 0))), none, [0]⟩] false)
  (.seq (.seq (.region [
    ⟨(some 9), (.mv (.s 0)), none, []⟩,
    ⟨(some 10), (.len false (.s 9)), none, [0]⟩,
    ⟨(some 11), (.bin .neq (.s 10) (.c (.int .i64 7))), none, [1]⟩] false)
  (.cond (.s 11)
   (.seq (.region [
     ⟨(some 2), (.mv (.c .nils)), none, []⟩,
     ⟨(some 3), (.mv (.c (.int .i64 1))), none, [0, 0]⟩] false)
   .ret)
   .skip))
  (.seq (.region [
    ⟨(some 4), (.mv (.c (.int .u64 0))), none, []⟩] false)
  (.seq (.seq (.region [
    ⟨(some 12), (.mv (.s 0)), none, []⟩,
    ⟨(some 13), (.len false (.s 12)), none, [0]⟩,
    ⟨(some 14), (.mv (.c (.int .i64 0))), none, []⟩] false)
  (.block 0
   (.loop ⟨0, [], false, [4, 12, 13, 14], []⟩
    (.seq (.region [
      ⟨(some 15), (.bin .lss (.s 14) (.s 13)), none, []⟩] false)
    (.seq (.cond (.s 15)
     .skip
     (.pre ⟨0, [], false, [4], []⟩ (.exit 0)))
    (.seq (.block 1
     (.seq (.region [
       ⟨(some 16), (.iad 1 (.s 12) (.s 14)), none, []⟩,
       ⟨(some 17), (.ldc (.s 16)), none, [0]⟩,
       ⟨(some 6), (.mv (.s 17)), none, [1, 0, 1]⟩] false)
     (.region [
       ⟨(some 18), (.mv (.s 4)), none, []⟩,
       ⟨(some 19), (.bin .shl (.s 18) (.c (.int .u64 8))), none, [0]⟩,
       ⟨(some 20), (.mv (.s 6)), none, []⟩,
       ⟨(some 21), (.cvi .u64 (.s 20)), none, [2]⟩,
       ⟨(some 22), (.bin .or (.s 19) (.s 21)), none, [1, 3]⟩,
       ⟨(some 4), (.mv (.s 22)), none, [4, 0, 1, 2, 3, 4]⟩] false)))
    (.region [
      ⟨(some 23), (.bin .add (.s 14) (.c (.int .i64 1))), none, []⟩,
      ⟨(some 14), (.mv (.s 23)), none, [0]⟩] false)))))))
  (.seq (.region [
    ⟨(some 24), (.mks (.ints .u8 [0]) 1 1 (.c (.int .i64 8)) (.c (.int .i64 8))), none, []⟩,
    ⟨(some 7), (.mv (.s 24)), none, [0, 0]⟩] false)
  (.seq (.seq (.region [
    ⟨(some 25), (.mv (.s 7)), none, []⟩,
    ⟨(some 26), (.len false (.s 25)), none, [0]⟩,
    ⟨(some 27), (.mv (.c (.int .i64 0))), none, []⟩] false)
  (.block 2
   (.loop ⟨1, [], false, [4, 7, 26, 27], []⟩
    (.seq (.region [
      ⟨(some 28), (.bin .lss (.s 27) (.s 26)), none, []⟩] false)
    (.seq (.cond (.s 28)
     .skip
     (.pre ⟨0, [], false, [7], []⟩ (.exit 2)))
    (.seq (.block 3
     (.seq (.region [
       ⟨(some 29), (.mv (.s 27)), none, []⟩,
       ⟨(some 8), (.mv (.s 29)), none, [0, 0]⟩] false)
     (.region [
       ⟨(some 30), (.mv (.s 7)), none, []⟩,
       ⟨(some 31), (.mv (.s 8)), none, []⟩,
       ⟨(some 32), (.mv (.s 4)), none, []⟩,
       ⟨(some 33), (.mv (.s 8)), none, []⟩,
       ⟨(some 34), (.bin .sub (.c (.int .i64 7)) (.s 33)), none, [3]⟩,
       ⟨(some 35), (.bin .mul (.c (.int .i64 7)) (.s 34)), none, [4]⟩,
       ⟨(some 36), (.bin .shr (.s 32) (.s 35)), none, [2, 5]⟩,
       ⟨(some 37), (.bin .shl (.s 36) (.c (.int .u64 1))), none, [6]⟩,
       ⟨(some 38), (.cvi .u8 (.s 37)), none, [7]⟩,
       ⟨(some 39), (.call (.c (.fn 25 [])) [(.s 38)]), none, [8]⟩,
       ⟨(some 40), (.iad 1 (.s 30) (.s 31)), none, [0, 1, 0, 1, 2, 3, 4, 5, 6, 7, 8, 9]⟩,
       ⟨none, (.stc 1 (.s 40) (.s 39)), none, [10, 9, 9, 0, 1, 2, 3, 4, 5, 6, 7, 8, 9]⟩] false)))
    (.region [
      ⟨(some 41), (.bin .add (.s 27) (.c (.int .i64 1))), none, []⟩,
      ⟨(some 27), (.mv (.s 41)), none, [0]⟩] false)))))))
  (.seq (.region [
    ⟨(some 42), (.mv (.s 7)), none, []⟩,
    ⟨(some 2), (.mv (.s 42)), none, [0, 0]⟩,
    ⟨(some 3), (.mv (.c (.int .i64 0))), none, [1, 0, 1]⟩] false)
  .ret))))))), false, (some [(Sh.sl (Sh.int .u8))]), (some (Sh.tu (Sh.pr (Sh.sl (Sh.int .u8)) (Sh.int .i64))))⟩

/-- euphroe/bitp.Odd -/
def k25 : Fun := ⟨1, 12, [0, 2], [(.tmp 2)],
  (.seq (.region [
    ⟨(some 2), (.mv (.c (.int .u8 0))), none, []⟩] false)
  (.seq (.region [
    ⟨(some 3), (.mv (.s 0)), none, []⟩,
    ⟨(some 4), (.bin .andNot (.s 3) (.c (.int .u8 1))), none, [0]⟩,
    ⟨(some 5), (.mv (.s 0)), none, []⟩,
    ⟨(some 6), (.bin .shr (.s 5) (.c (.int .u64 1))), none, [2]⟩,
    ⟨(some 7), (.call (.c (.fn 52 [])) [(.s 6)]), none, [3]⟩,
    ⟨(some 8), (.bin .and (.s 7) (.c (.int .i64 1))), none, [4]⟩,
    ⟨(some 9), (.bin .sub (.c (.int .i64 1)) (.s 8)), none, [5]⟩,
    ⟨(some 10), (.cvi .u8 (.s 9)), none, [6]⟩,
    ⟨(some 11), (.bin .or (.s 4) (.s 10)), none, [1, 7]⟩,
    ⟨(some 2), (.mv (.s 11)), none, [8, 4, 0, 1, 2, 3, 4, 5, 6, 7, 8]⟩] false)
  .ret)), false, (some [(Sh.int .u8)]), (some (Sh.int .u8))⟩

/-- euphroe/euphroelaw03.alive -/
def k26 : Fun := ⟨0, 58, [0, 1, 2, 3, 4, 5, 6], [(.tmp 0)],
  (.seq (.region [
    ⟨(some 0), (.mv (.c (.bool false))), none, []⟩] false)
  (.seq (.region [
    ⟨(some 8), (.bsl 2 1 (.ints .i64 [0, 0]) [(0, 1, (.c (.int .i64 2))), (1, 1, (.c (.int .i64 1)))]), none, []⟩,
    ⟨(some 9), (.call (.c (.fn 27 [])) [(.c (.int .u64 2)), (.c (.int .i64 2)), (.s 8)]), none, [0]⟩,
    ⟨(some 7), (.mv (.s 9)), none, [1]⟩,
    ⟨(some 10), (.ext (.s 7) 0), none, [2]⟩,
    ⟨(some 11), (.ext (.s 7) 1), none, [2]⟩,
    ⟨(some 1), (.mv (.s 10)), none, [3, 1, 0, 1, 2, 3]⟩,
    ⟨(some 2), (.mv (.s 11)), none, [4, 5, 0, 1, 2, 3, 4, 5]⟩] false)
  (.seq (.region [
    ⟨(some 13), (.call (.c (.fn 29 [])) [(.c (.int .u64 1)), (.c (.int .i64 4)), (.c (.int .i64 (-1)))]), none, []⟩,
    ⟨(some 12), (.mv (.s 13)), none, [0]⟩,
    ⟨(some 14), (.ext (.s 12) 0), none, [1]⟩,
    ⟨(some 15), (.ext (.s 12) 1), none, [1]⟩,
    ⟨(some 3), (.mv (.s 14)), none, [2, 0, 0, 1, 2]⟩,
    ⟨(some 4), (.mv (.s 15)), none, [3, 4, 0, 1, 2, 3, 4]⟩] false)
  (.seq (.region [
    ⟨(some 17), (.mks (.ints .u8 [0]) 1 1 (.c (.int .i64 7)) (.c (.int .i64 7))), none, []⟩,
    ⟨(some 18), (.call (.c (.fn 24 [])) [(.s 17)]), none, [0]⟩,
    ⟨(some 16), (.mv (.s 18)), none, [1]⟩,
    ⟨(some 19), (.ext (.s 16) 0), none, [2]⟩,
    ⟨(some 20), (.ext (.s 16) 1), none, [2]⟩,
    ⟨(some 5), (.mv (.s 19)), none, [3, 1, 0, 1, 2, 3]⟩,
    ⟨(some 6), (.mv (.s 20)), none, [4, 5, 0, 1, 2, 3, 4, 5]⟩] false)
  (.seq (.region [
    ⟨(some 21), (.mv (.s 1)), none, []⟩,
    ⟨(some 22), (.bin .eql (.s 21) (.c (.int .u64 1))), none, [0]⟩,
    ⟨(some 23), (.mv (.s 22)), none, [1]⟩,
    ⟨(some 24), (.mv (.s 2)), (some (23, true)), [2]⟩,
    ⟨(some 25), (.bin .eql (.s 24) (.c (.int .i64 0))), (some (23, true)), [3, 2]⟩,
    ⟨(some 26), (.pick (.s 23) (.s 25) (.c (.bool false))), none, [2, 4]⟩,
    ⟨(some 27), (.mv (.s 26)), none, [5, 2]⟩,
    ⟨(some 28), (.mv (.s 3)), (some (27, true)), [6]⟩,
    ⟨(some 29), (.bin .eql (.s 28) (.c (.int .u64 8))), (some (27, true)), [7, 6]⟩,
    ⟨(some 30), (.pick (.s 27) (.s 29) (.c (.bool false))), none, [6, 8]⟩,
    ⟨(some 31), (.mv (.s 30)), none, [9, 6]⟩,
    ⟨(some 32), (.mv (.s 4)), (some (31, true)), [10]⟩,
    ⟨(some 33), (.bin .eql (.s 32) (.c (.int .i64 0))), (some (31, true)), [11, 10]⟩,
    ⟨(some 34), (.pick (.s 31) (.s 33) (.c (.bool false))), none, [10, 12]⟩,
    ⟨(some 35), (.mv (.s 34)), none, [13, 10]⟩,
    ⟨(some 36), (.mv (.s 5)), (some (35, true)), [14]⟩,
    ⟨(some 37), (.len false (.s 36)), (some (35, true)), [15, 14]⟩,
    ⟨(some 38), (.bin .eql (.s 37) (.c (.int .i64 8))), (some (35, true)), [16, 14]⟩,
    ⟨(some 39), (.pick (.s 35) (.s 38) (.c (.bool false))), none, [14, 17]⟩,
    ⟨(some 40), (.mv (.s 39)), none, [18, 14]⟩,
    ⟨(some 41), (.mv (.s 5)), (some (40, true)), [19]⟩,
    ⟨(some 42), (.iad 1 (.s 41) (.c (.int .i64 0))), (some (40, true)), [20, 19]⟩,
    ⟨(some 43), (.ldc (.s 42)), (some (40, true)), [21, 19]⟩,
    ⟨(some 44), (.bin .eql (.s 43) (.c (.int .u8 1))), (some (40, true)), [22, 19]⟩,
    ⟨(some 45), (.pick (.s 40) (.s 44) (.c (.bool false))), none, [19, 23]⟩,
    ⟨(some 46), (.mv (.s 45)), none, [24, 19]⟩,
    ⟨(some 47), (.mv (.s 6)), (some (46, true)), [25]⟩,
    ⟨(some 48), (.bin .eql (.s 47) (.c (.int .i64 0))), (some (46, true)), [26, 25]⟩,
    ⟨(some 49), (.pick (.s 46) (.s 48) (.c (.bool false))), none, [25, 27]⟩,
    ⟨(some 50), (.mv (.s 49)), none, [28, 25]⟩,
    ⟨(some 51), (.call (.c (.fn 33 [])) [(.c (.int .u64 8)), (.c (.int .i64 4)), (.c (.int .i64 1))]), (some (50, true)), [29, 29]⟩,
    ⟨(some 52), (.bin .eql (.s 51) (.c (.int .u64 1))), (some (50, true)), [30, 29]⟩,
    ⟨(some 53), (.pick (.s 50) (.s 52) (.c (.bool false))), none, [29, 31]⟩,
    ⟨(some 54), (.mv (.s 53)), none, [32, 30]⟩,
    ⟨(some 55), (.call (.c (.fn 25 [])) [(.c (.int .u8 3))]), (some (54, true)), [33, 33]⟩,
    ⟨(some 56), (.bin .eql (.s 55) (.c (.int .u8 2))), (some (54, true)), [34, 33]⟩,
    ⟨(some 57), (.pick (.s 54) (.s 56) (.c (.bool false))), none, [33, 35]⟩,
    ⟨(some 0), (.mv (.s 57)), none, [36, 34, 0, 1, 2, 3, 4, 5, 6, 7, 8, 9, 10, 11, 12, 13, 14, 15, 16, 17, 18, 19, 20, 21, 22, 23, 24, 25, 26, 27, 28, 29, 30, 31, 32, 33, 34, 35, 36]⟩] false)
  .ret))))), false, (some []), (some Sh.bool)⟩

/-- euphroe/bitp.Permute -/
def k27 : Fun := ⟨3, 34, [0, 1, 2, 3, 4, 6, 7, 8, 9, 10, 12, 20, 22, 23, 24, 25, 32], [(.tmp 6), (.tmp 7)],
  (.seq (.region [
    ⟨(some 3), (.box (.s 0)), none, []⟩,
    ⟨(some 4), (.box (.s 1)), none, []⟩,
    ⟨(some 6), (.mv (.c (.int .u64 0))), none, []⟩,
    ⟨(some 7), (.mv (.c (.int .i64 0))), none, [2]⟩] false)
  (.seq (.seq (.region [
    ⟨(some 13), (.ldc (.s 4)), none, []⟩,
    ⟨(some 14), (.call (.c (.fn 53 [])) [(.s 13)]), none, [0]⟩,
    ⟨(some 15), (.un .not (.s 14)), none, [1]⟩,
    ⟨(some 16), (.mv (.s 15)), none, [2, 1]⟩,
    ⟨(some 17), (.mv (.s 2)), (some (16, false)), [3]⟩,
    ⟨(some 18), (.len false (.s 17)), (some (16, false)), [4, 3]⟩,
    ⟨(some 19), (.bin .gtr (.s 18) (.c (.int .i64 64))), (some (16, false)), [5, 3]⟩,
    ⟨(some 20), (.pick (.s 16) (.c (.bool true)) (.s 19)), none, [3, 6]⟩] false)
  (.cond (.s 20)
   (.seq (.region [
     ⟨(some 6), (.mv (.c (.int .u64 0))), none, []⟩,
     ⟨(some 7), (.mv (.c (.int .i64 1))), none, [0, 0]⟩] false)
   .ret)
   .skip))
  (.seq (.region [
    ⟨(some 8), (.new (.ints .u64 [0])), none, []⟩,
    ⟨(some 9), (.new (.vals [(.bool false)])), none, []⟩,
    ⟨none, (.stc 1 (.s 8) (.c (.int .u64 0))), none, [0, 0, 1]⟩,
    ⟨none, (.stc 1 (.s 9) (.c (.bool false))), none, [1, 2, 0, 1, 2]⟩] false)
  (.seq (.region [
    ⟨(some 21), (.mkf 54 [(.s 9), (.s 4), (.s 8), (.s 3)]), none, []⟩,
    ⟨(some 10), (.mv (.s 21)), none, [0, 0]⟩] false)
  (.seq (.seq (.region [
    ⟨(some 22), (.mv (.s 2)), none, []⟩,
    ⟨(some 23), (.len false (.s 22)), none, [0]⟩,
    ⟨(some 24), (.mv (.c (.int .i64 0))), none, []⟩] false)
  (.block 0
   (.loop ⟨0, [], false, [8, 9, 10, 22, 23, 24], []⟩
    (.seq (.region [
      ⟨(some 25), (.bin .lss (.s 24) (.s 23)), none, []⟩] false)
    (.seq (.cond (.s 25)
     .skip
     (.pre ⟨0, [], false, [8, 9], []⟩ (.exit 0)))
    (.seq (.block 1
     (.seq (.region [
       ⟨(some 26), (.iad 1 (.s 22) (.s 24)), none, []⟩,
       ⟨(some 27), (.ldc (.s 26)), none, [0]⟩,
       ⟨(some 12), (.mv (.s 27)), none, [1, 0, 1]⟩] false)
     (.region [
       ⟨(some 28), (.mv (.s 10)), none, []⟩,
       ⟨(some 29), (.mv (.s 12)), none, []⟩,
       ⟨(some 30), (.call (.s 28) [(.s 29)]), none, [0, 1]⟩] false)))
    (.region [
      ⟨(some 31), (.bin .add (.s 24) (.c (.int .i64 1))), none, []⟩,
      ⟨(some 24), (.mv (.s 31)), none, [0]⟩] false)))))))
  (.seq (.seq (.region [
    ⟨(some 32), (.ldc (.s 9)), none, []⟩] false)
  (.cond (.s 32)
   (.seq (.region [
     ⟨(some 6), (.mv (.c (.int .u64 0))), none, []⟩,
     ⟨(some 7), (.mv (.c (.int .i64 1))), none, [0, 0]⟩] false)
   .ret)
   .skip))
  (.seq (.region [
    ⟨(some 33), (.ldc (.s 8)), none, []⟩,
    ⟨(some 6), (.mv (.s 33)), none, [0, 0]⟩,
    ⟨(some 7), (.mv (.c (.int .i64 0))), none, [1, 0, 1]⟩] false)
  .ret))))))), false, (some [(Sh.int .u64), (Sh.int .i64), (Sh.sl (Sh.int .i64))]), (some (Sh.tu (Sh.pr (Sh.int .u64) (Sh.int .i64))))⟩

/-- euphroe/euphroeref03.Permute -/
def k28 : Fun := ⟨3, 54, [0, 1, 2, 6, 7, 8, 9, 10, 18, 25, 40], [(.tmp 6), (.tmp 7)],
  (.seq (.region [
    ⟨(some 6), (.mv (.c (.int .u64 0))), none, []⟩,
    ⟨(some 7), (.mv (.c (.int .i64 0))), none, [0]⟩] false)
  (.seq (.seq (.region [
    ⟨(some 11), (.mv (.s 1)), none, []⟩,
    ⟨(some 12), (.call (.c (.fn 55 [])) [(.s 11)]), none, [0]⟩,
    ⟨(some 13), (.un .not (.s 12)), none, [1]⟩,
    ⟨(some 14), (.mv (.s 13)), none, [2, 1]⟩,
    ⟨(some 15), (.mv (.s 2)), (some (14, false)), [3]⟩,
    ⟨(some 16), (.len false (.s 15)), (some (14, false)), [4, 3]⟩,
    ⟨(some 17), (.bin .gtr (.s 16) (.c (.int .i64 64))), (some (14, false)), [5, 3]⟩,
    ⟨(some 18), (.pick (.s 14) (.c (.bool true)) (.s 17)), none, [3, 6]⟩] false)
  (.cond (.s 18)
   (.seq (.region [
     ⟨(some 6), (.mv (.c (.int .u64 0))), none, []⟩,
     ⟨(some 7), (.mv (.c (.int .i64 1))), none, [0, 0]⟩] false)
   .ret)
   .skip))
  (.seq (.region [
    ⟨(some 19), (.mv (.s 0)), none, []⟩,
    ⟨(some 20), (.mv (.s 1)), none, []⟩,
    ⟨(some 21), (.call (.c (.fn 56 [])) [(.s 19), (.s 20)]), none, [0, 1]⟩,
    ⟨(some 8), (.mv (.s 21)), none, [2, 2, 0, 1, 2]⟩] false)
  (.seq (.region [
    ⟨(some 9), (.mv (.c .nils)), none, []⟩] false)
  (.seq (.seq (.region [
    ⟨(some 10), (.mv (.c (.int .i64 0))), none, []⟩] false)
  (.block 0
   (.loop ⟨0, [], false, [1, 2, 8, 9, 10], [(9, (.ints .u8 []), 1)]⟩
    (.seq (.seq (.region [
      ⟨(some 22), (.mv (.s 10)), none, []⟩,
      ⟨(some 23), (.mv (.s 2)), none, []⟩,
      ⟨(some 24), (.len false (.s 23)), none, [1]⟩,
      ⟨(some 25), (.bin .lss (.s 22) (.s 24)), none, [0, 2]⟩] false)
    (.cond (.s 25)
     .skip
     (.pre ⟨0, [], false, [9], []⟩ (.exit 0))))
    (.seq (.block 1
     (.seq (.seq (.region [
       ⟨(some 28), (.mv (.s 2)), none, []⟩,
       ⟨(some 29), (.mv (.s 10)), none, []⟩,
       ⟨(some 30), (.iad 1 (.s 28) (.s 29)), none, [0, 1]⟩,
       ⟨(some 31), (.ldc (.s 30)), none, [2]⟩,
       ⟨(some 32), (.bin .lss (.s 31) (.c (.int .i64 1))), none, [3]⟩,
       ⟨(some 33), (.mv (.s 32)), none, [4]⟩,
       ⟨(some 34), (.mv (.s 2)), (some (33, false)), [5]⟩,
       ⟨(some 35), (.mv (.s 10)), (some (33, false)), [5]⟩,
       ⟨(some 36), (.iad 1 (.s 34) (.s 35)), (some (33, false)), [6, 7, 5]⟩,
       ⟨(some 37), (.ldc (.s 36)), (some (33, false)), [8, 5]⟩,
       ⟨(some 38), (.mv (.s 1)), (some (33, false)), [5]⟩,
       ⟨(some 39), (.bin .gtr (.s 37) (.s 38)), (some (33, false)), [9, 10, 5]⟩,
       ⟨(some 40), (.pick (.s 33) (.c (.bool true)) (.s 39)), none, [5, 11]⟩] false)
     (.cond (.s 40)
      (.seq (.region [
        ⟨(some 6), (.mv (.c (.int .u64 0))), none, []⟩,
        ⟨(some 7), (.mv (.c (.int .i64 1))), none, [0, 0]⟩] false)
      .ret)
      .skip))
     (.region [
       ⟨(some 41), (.mv (.s 9)), none, []⟩,
       ⟨(some 42), (.mv (.s 8)), none, []⟩,
       ⟨(some 43), (.mv (.s 2)), none, []⟩,
       ⟨(some 44), (.mv (.s 10)), none, []⟩,
       ⟨(some 45), (.iad 1 (.s 43) (.s 44)), none, [2, 3]⟩,
       ⟨(some 46), (.ldc (.s 45)), none, [4]⟩,
       ⟨(some 47), (.bin .sub (.s 46) (.c (.int .i64 1))), none, [5]⟩,
       ⟨(some 48), (.iad 1 (.s 42) (.s 47)), none, [1, 6]⟩,
       ⟨(some 49), (.ldc (.s 48)), none, [7]⟩,
       ⟨(some 50), (.bsl 1 1 (.ints .u8 [0]) [(0, 1, (.s 49))]), none, [8]⟩,
       ⟨(some 51), (.app 1 1 (.s 41) (.s 50)), none, [0, 9]⟩,
       ⟨(some 9), (.mv (.s 51)), none, [10, 10, 0, 1, 2, 3, 4, 5, 6, 7, 8, 9, 10]⟩] false)))
    (.region [
      ⟨(some 26), (.mv (.s 10)), none, []⟩,
      ⟨(some 27), (.bin .add (.s 26) (.c (.int .i64 1))), none, [0]⟩,
      ⟨(some 10), (.mv (.s 27)), none, [1, 0, 1]⟩] false))))))
  (.seq (.region [
    ⟨(some 52), (.mv (.s 9)), none, []⟩,
    ⟨(some 53), (.call (.c (.fn 57 [])) [(.s 52)]), none, [0]⟩,
    ⟨(some 6), (.mv (.s 53)), none, [1, 1, 0, 1]⟩,
    ⟨(some 7), (.mv (.c (.int .i64 0))), none, [2, 0, 1, 2]⟩] false)
  .ret)))))), false, (some [(Sh.int .u64), (Sh.int .i64), (Sh.sl (Sh.int .i64))]), (some (Sh.tu (Sh.pr (Sh.int .u64) (Sh.int .i64))))⟩

/-- euphroe/bitp.Turn -/
def k29 : Fun := ⟨3, 35, [0, 1, 2, 6, 7, 10, 15], [(.tmp 6), (.tmp 7)],
  (.seq (.region [
    ⟨(some 6), (.mv (.c (.int .u64 0))), none, []⟩,
    ⟨(some 7), (.mv (.c (.int .i64 0))), none, [0]⟩] false)
  (.seq (.seq (.region [
    ⟨(some 8), (.mv (.s 1)), none, []⟩,
    ⟨(some 9), (.call (.c (.fn 53 [])) [(.s 8)]), none, [0]⟩,
    ⟨(some 10), (.un .not (.s 9)), none, [1]⟩] false)
  (.cond (.s 10)
   (.seq (.region [
     ⟨(some 6), (.mv (.c (.int .u64 0))), none, []⟩,
     ⟨(some 7), (.mv (.c (.int .i64 1))), none, [0, 0]⟩] false)
   .ret)
   .skip))
  (.seq (.region [
    ⟨(some 11), (.mv (.s 2)), none, []⟩,
    ⟨(some 12), (.mv (.s 1)), none, []⟩,
    ⟨(some 13), (.bin .rem (.s 11) (.s 12)), none, [0, 1]⟩,
    ⟨(some 2), (.mv (.s 13)), none, [2, 0, 1, 2]⟩] false)
  (.seq (.seq (.region [
    ⟨(some 14), (.mv (.s 2)), none, []⟩,
    ⟨(some 15), (.bin .lss (.s 14) (.c (.int .i64 0))), none, [0]⟩] false)
  (.cond (.s 15)
   (.region [
     ⟨(some 16), (.mv (.s 2)), none, []⟩,
     ⟨(some 17), (.mv (.s 1)), none, []⟩,
     ⟨(some 18), (.bin .add (.s 16) (.s 17)), none, [0, 1]⟩,
     ⟨(some 2), (.mv (.s 18)), none, [2, 0, 1, 2]⟩] false)
   .skip))
  (.seq (.region [
    ⟨(some 19), (.mv (.s 0)), none, []⟩,
    ⟨(some 20), (.mv (.s 1)), none, []⟩,
    ⟨(some 21), (.call (.c (.fn 58 [])) [(.s 20)]), none, [1]⟩,
    ⟨(some 22), (.bin .and (.s 19) (.s 21)), none, [0, 2]⟩,
    ⟨(some 0), (.mv (.s 22)), none, [3, 2, 0, 1, 2, 3]⟩] false)
  (.seq (.region [
    ⟨(some 23), (.mv (.s 0)), none, []⟩,
    ⟨(some 24), (.mv (.s 2)), none, []⟩,
    ⟨(some 25), (.bin .shl (.s 23) (.s 24)), none, [0, 1]⟩,
    ⟨(some 26), (.mv (.s 0)), none, []⟩,
    ⟨(some 27), (.mv (.s 1)), none, []⟩,
    ⟨(some 28), (.mv (.s 2)), none, []⟩,
    ⟨(some 29), (.bin .sub (.s 27) (.s 28)), none, [4, 5]⟩,
    ⟨(some 30), (.bin .shr (.s 26) (.s 29)), none, [3, 6]⟩,
    ⟨(some 31), (.bin .or (.s 25) (.s 30)), none, [2, 7]⟩,
    ⟨(some 32), (.mv (.s 1)), none, []⟩,
    ⟨(some 33), (.call (.c (.fn 58 [])) [(.s 32)]), none, [9]⟩,
    ⟨(some 34), (.bin .and (.s 31) (.s 33)), none, [8, 10]⟩,
    ⟨(some 6), (.mv (.s 34)), none, [11, 10, 0, 1, 2, 3, 4, 5, 6, 7, 8, 9, 10, 11]⟩,
    ⟨(some 7), (.mv (.c (.int .i64 0))), none, [12, 0, 1, 2, 3, 4, 5, 6, 7, 8, 9, 10, 11, 12]⟩] true)
  .ret)))))), false, (some [(Sh.int .u64), (Sh.int .i64), (Sh.int .i64)]), (some (Sh.tu (Sh.pr (Sh.int .u64) (Sh.int .i64))))⟩

/-- euphroe/euphroeref03.Turn -/
def k30 : Fun := ⟨3, 32, [0, 1, 2, 6, 7, 8, 9, 12], [(.tmp 6), (.tmp 7)],
  (.seq (.region [
    ⟨(some 6), (.mv (.c (.int .u64 0))), none, []⟩,
    ⟨(some 7), (.mv (.c (.int .i64 0))), none, [0]⟩] false)
  (.seq (.seq (.region [
    ⟨(some 10), (.mv (.s 1)), none, []⟩,
    ⟨(some 11), (.call (.c (.fn 55 [])) [(.s 10)]), none, [0]⟩,
    ⟨(some 12), (.un .not (.s 11)), none, [1]⟩] false)
  (.cond (.s 12)
   (.seq (.region [
     ⟨(some 6), (.mv (.c (.int .u64 0))), none, []⟩,
     ⟨(some 7), (.mv (.c (.int .i64 1))), none, [0, 0]⟩] false)
   .ret)
   .skip))
  (.seq (.region [
    ⟨(some 13), (.mv (.s 2)), none, []⟩,
    ⟨(some 14), (.mv (.s 1)), none, []⟩,
    ⟨(some 15), (.bin .rem (.s 13) (.s 14)), none, [0, 1]⟩,
    ⟨(some 16), (.mv (.s 1)), none, []⟩,
    ⟨(some 17), (.bin .add (.s 15) (.s 16)), none, [2, 3]⟩,
    ⟨(some 18), (.mv (.s 1)), none, []⟩,
    ⟨(some 19), (.bin .rem (.s 17) (.s 18)), none, [4, 5]⟩,
    ⟨(some 8), (.mv (.s 19)), none, [6, 0, 1, 2, 3, 4, 5, 6]⟩] false)
  (.seq (.region [
    ⟨(some 20), (.mv (.s 0)), none, []⟩,
    ⟨(some 21), (.mv (.s 1)), none, []⟩,
    ⟨(some 22), (.call (.c (.fn 56 [])) [(.s 20), (.s 21)]), none, [0, 1]⟩,
    ⟨(some 9), (.mv (.s 22)), none, [2, 2, 0, 1, 2]⟩] false)
  (.seq (.region [
    ⟨(some 23), (.mv (.s 9)), none, []⟩,
    ⟨(some 24), (.mv (.s 8)), none, []⟩,
    ⟨(some 25), (.sls 1 (.s 23) (some (.s 24)) none none), none, [0, 1]⟩,
    ⟨(some 26), (.app 1 1 (.c .nils) (.s 25)), none, [2]⟩,
    ⟨(some 27), (.mv (.s 9)), none, []⟩,
    ⟨(some 28), (.mv (.s 8)), none, []⟩,
    ⟨(some 29), (.sls 1 (.s 27) none (some (.s 28)) none), none, [4, 5]⟩,
    ⟨(some 30), (.app 1 1 (.s 26) (.s 29)), none, [3, 6, 3]⟩,
    ⟨(some 31), (.call (.c (.fn 57 [])) [(.s 30)]), none, [7, 7]⟩,
    ⟨(some 6), (.mv (.s 31)), none, [8, 8, 0, 1, 2, 3, 4, 5, 6, 7, 8]⟩,
    ⟨(some 7), (.mv (.c (.int .i64 0))), none, [9, 0, 1, 2, 3, 4, 5, 6, 7, 8, 9]⟩] true)
  .ret))))), false, (some [(Sh.int .u64), (Sh.int .i64), (Sh.int .i64)]), (some (Sh.tu (Sh.pr (Sh.int .u64) (Sh.int .i64))))⟩

/-- euphroe/bitp.Split -/
def k31 : Fun := ⟨3, 39, [0, 1, 2, 6, 7, 8, 9, 21], [(.tmp 6), (.tmp 7), (.tmp 8)],
  (.seq (.region [
    ⟨(some 6), (.mv (.c (.int .u64 0))), none, []⟩,
    ⟨(some 7), (.mv (.c (.int .u64 0))), none, [0]⟩,
    ⟨(some 8), (.mv (.c (.int .i64 0))), none, [1]⟩] false)
  (.seq (.seq (.region [
    ⟨(some 10), (.mv (.s 1)), none, []⟩,
    ⟨(some 11), (.call (.c (.fn 53 [])) [(.s 10)]), none, [0]⟩,
    ⟨(some 12), (.un .not (.s 11)), none, [1]⟩,
    ⟨(some 13), (.mv (.s 12)), none, [2, 1]⟩,
    ⟨(some 14), (.mv (.s 2)), (some (13, false)), [3]⟩,
    ⟨(some 15), (.bin .lss (.s 14) (.c (.int .i64 0))), (some (13, false)), [4, 3]⟩,
    ⟨(some 16), (.pick (.s 13) (.c (.bool true)) (.s 15)), none, [3, 5]⟩,
    ⟨(some 17), (.mv (.s 16)), none, [6, 3]⟩,
    ⟨(some 18), (.mv (.s 2)), (some (17, false)), [7]⟩,
    ⟨(some 19), (.mv (.s 1)), (some (17, false)), [7]⟩,
    ⟨(some 20), (.bin .gtr (.s 18) (.s 19)), (some (17, false)), [8, 9, 7]⟩,
    ⟨(some 21), (.pick (.s 17) (.c (.bool true)) (.s 20)), none, [7, 10]⟩] false)
  (.cond (.s 21)
   (.seq (.region [
     ⟨(some 6), (.mv (.c (.int .u64 0))), none, []⟩,
     ⟨(some 7), (.mv (.c (.int .u64 0))), none, [0, 0]⟩,
     ⟨(some 8), (.mv (.c (.int .i64 1))), none, [1, 0, 1]⟩] false)
   .ret)
   .skip))
  (.seq (.region [
    ⟨(some 22), (.mv (.s 0)), none, []⟩,
    ⟨(some 23), (.mv (.s 1)), none, []⟩,
    ⟨(some 24), (.call (.c (.fn 58 [])) [(.s 23)]), none, [1]⟩,
    ⟨(some 25), (.bin .and (.s 22) (.s 24)), none, [0, 2]⟩,
    ⟨(some 0), (.mv (.s 25)), none, [3, 2, 0, 1, 2, 3]⟩] false)
  (.seq (.region [
    ⟨(some 26), (.mv (.s 1)), none, []⟩,
    ⟨(some 27), (.mv (.s 2)), none, []⟩,
    ⟨(some 28), (.bin .sub (.s 26) (.s 27)), none, [0, 1]⟩,
    ⟨(some 9), (.mv (.s 28)), none, [2, 0, 1, 2]⟩] false)
  (.seq (.region [
    ⟨(some 29), (.mv (.s 0)), none, []⟩,
    ⟨(some 30), (.mv (.s 9)), none, []⟩,
    ⟨(some 31), (.bin .shr (.s 29) (.s 30)), none, [0, 1]⟩,
    ⟨(some 32), (.mv (.s 0)), none, []⟩,
    ⟨(some 33), (.mv (.s 0)), none, []⟩,
    ⟨(some 34), (.mv (.s 9)), none, []⟩,
    ⟨(some 35), (.bin .shr (.s 33) (.s 34)), none, [4, 5]⟩,
    ⟨(some 36), (.mv (.s 9)), none, []⟩,
    ⟨(some 37), (.bin .shl (.s 35) (.s 36)), none, [6, 7]⟩,
    ⟨(some 38), (.bin .andNot (.s 32) (.s 37)), none, [3, 8]⟩,
    ⟨(some 6), (.mv (.s 31)), none, [2, 0, 1, 2]⟩,
    ⟨(some 7), (.mv (.s 38)), none, [9, 10, 0, 1, 2, 3, 4, 5, 6, 7, 8, 9, 10]⟩,
    ⟨(some 8), (.mv (.c (.int .i64 0))), none, [11, 0, 1, 2, 3, 4, 5, 6, 7, 8, 9, 10, 11]⟩] true)
  .ret))))), false, (some [(Sh.int .u64), (Sh.int .i64), (Sh.int .i64)]), (some (Sh.tu (Sh.pr (Sh.int .u64) (Sh.pr (Sh.int .u64) (Sh.int .i64)))))⟩

/-- euphroe/euphroeref03.Split -/
def k32 : Fun := ⟨3, 33, [0, 1, 2, 6, 7, 8, 9, 21], [(.tmp 6), (.tmp 7), (.tmp 8)],
  (.seq (.region [
    ⟨(some 6), (.mv (.c (.int .u64 0))), none, []⟩,
    ⟨(some 7), (.mv (.c (.int .u64 0))), none, [0]⟩,
    ⟨(some 8), (.mv (.c (.int .i64 0))), none, [1]⟩] false)
  (.seq (.seq (.region [
    ⟨(some 10), (.mv (.s 1)), none, []⟩,
    ⟨(some 11), (.call (.c (.fn 55 [])) [(.s 10)]), none, [0]⟩,
    ⟨(some 12), (.un .not (.s 11)), none, [1]⟩,
    ⟨(some 13), (.mv (.s 12)), none, [2, 1]⟩,
    ⟨(some 14), (.mv (.s 2)), (some (13, false)), [3]⟩,
    ⟨(some 15), (.bin .lss (.s 14) (.c (.int .i64 0))), (some (13, false)), [4, 3]⟩,
    ⟨(some 16), (.pick (.s 13) (.c (.bool true)) (.s 15)), none, [3, 5]⟩,
    ⟨(some 17), (.mv (.s 16)), none, [6, 3]⟩,
    ⟨(some 18), (.mv (.s 2)), (some (17, false)), [7]⟩,
    ⟨(some 19), (.mv (.s 1)), (some (17, false)), [7]⟩,
    ⟨(some 20), (.bin .gtr (.s 18) (.s 19)), (some (17, false)), [8, 9, 7]⟩,
    ⟨(some 21), (.pick (.s 17) (.c (.bool true)) (.s 20)), none, [7, 10]⟩] false)
  (.cond (.s 21)
   (.seq (.region [
     ⟨(some 6), (.mv (.c (.int .u64 0))), none, []⟩,
     ⟨(some 7), (.mv (.c (.int .u64 0))), none, [0, 0]⟩,
     ⟨(some 8), (.mv (.c (.int .i64 1))), none, [1, 0, 1]⟩] false)
   .ret)
   .skip))
  (.seq (.region [
    ⟨(some 22), (.mv (.s 0)), none, []⟩,
    ⟨(some 23), (.mv (.s 1)), none, []⟩,
    ⟨(some 24), (.call (.c (.fn 56 [])) [(.s 22), (.s 23)]), none, [0, 1]⟩,
    ⟨(some 9), (.mv (.s 24)), none, [2, 2, 0, 1, 2]⟩] false)
  (.seq (.region [
    ⟨(some 25), (.mv (.s 9)), none, []⟩,
    ⟨(some 26), (.mv (.s 2)), none, []⟩,
    ⟨(some 27), (.sls 1 (.s 25) none (some (.s 26)) none), none, [0, 1]⟩,
    ⟨(some 28), (.call (.c (.fn 57 [])) [(.s 27)]), none, [2]⟩,
    ⟨(some 29), (.mv (.s 9)), none, []⟩,
    ⟨(some 30), (.mv (.s 2)), none, []⟩,
    ⟨(some 31), (.sls 1 (.s 29) (some (.s 30)) none none), none, [4, 5]⟩,
    ⟨(some 32), (.call (.c (.fn 57 [])) [(.s 31)]), none, [6, 3]⟩,
    ⟨(some 6), (.mv (.s 28)), none, [3, 7, 0, 1, 2, 3]⟩,
    ⟨(some 7), (.mv (.s 32)), none, [7, 8, 0, 1, 2, 3, 4, 5, 6, 7, 8]⟩,
    ⟨(some 8), (.mv (.c (.int .i64 0))), none, [9, 0, 1, 2, 3, 4, 5, 6, 7, 8, 9]⟩] true)
  .ret)))), false, (some [(Sh.int .u64), (Sh.int .i64), (Sh.int .i64)]), (some (Sh.tu (Sh.pr (Sh.int .u64) (Sh.pr (Sh.int .u64) (Sh.int .i64)))))⟩

/-- euphroe/bitp.Bit -/
def k33 : Fun := ⟨3, 25, [0, 1, 2, 6, 18], [(.tmp 6)],
  (.seq (.region [
    ⟨(some 6), (.mv (.c (.int .u64 0))), none, []⟩] false)
  (.seq (.seq (.region [
    ⟨(some 7), (.mv (.s 1)), none, []⟩,
    ⟨(some 8), (.call (.c (.fn 53 [])) [(.s 7)]), none, [0]⟩,
    ⟨(some 9), (.un .not (.s 8)), none, [1]⟩,
    ⟨(some 10), (.mv (.s 9)), none, [2, 1]⟩,
    ⟨(some 11), (.mv (.s 2)), (some (10, false)), [3]⟩,
    ⟨(some 12), (.bin .lss (.s 11) (.c (.int .i64 1))), (some (10, false)), [4, 3]⟩,
    ⟨(some 13), (.pick (.s 10) (.c (.bool true)) (.s 12)), none, [3, 5]⟩,
    ⟨(some 14), (.mv (.s 13)), none, [6, 3]⟩,
    ⟨(some 15), (.mv (.s 2)), (some (14, false)), [7]⟩,
    ⟨(some 16), (.mv (.s 1)), (some (14, false)), [7]⟩,
    ⟨(some 17), (.bin .gtr (.s 15) (.s 16)), (some (14, false)), [8, 9, 7]⟩,
    ⟨(some 18), (.pick (.s 14) (.c (.bool true)) (.s 17)), none, [7, 10]⟩] false)
  (.cond (.s 18)
   (.seq (.region [
     ⟨(some 6), (.mv (.c (.int .u64 0))), none, []⟩] false)
   .ret)
   .skip))
  (.seq (.region [
    ⟨(some 19), (.mv (.s 0)), none, []⟩,
    ⟨(some 20), (.mv (.s 1)), none, []⟩,
    ⟨(some 21), (.mv (.s 2)), none, []⟩,
    ⟨(some 22), (.bin .sub (.s 20) (.s 21)), none, [1, 2]⟩,
    ⟨(some 23), (.bin .shr (.s 19) (.s 22)), none, [0, 3]⟩,
    ⟨(some 24), (.bin .and (.s 23) (.c (.int .u64 1))), none, [4]⟩,
    ⟨(some 6), (.mv (.s 24)), none, [5, 0, 1, 2, 3, 4, 5]⟩] false)
  .ret))), false, (some [(Sh.int .u64), (Sh.int .i64), (Sh.int .i64)]), (some (Sh.int .u64))⟩

/-- euphroe/euphroeref03.Bit -/
def k34 : Fun := ⟨3, 27, [0, 1, 2, 6, 18], [(.tmp 6)],
  (.seq (.region [
    ⟨(some 6), (.mv (.c (.int .u64 0))), none, []⟩] false)
  (.seq (.seq (.region [
    ⟨(some 7), (.mv (.s 1)), none, []⟩,
    ⟨(some 8), (.call (.c (.fn 55 [])) [(.s 7)]), none, [0]⟩,
    ⟨(some 9), (.un .not (.s 8)), none, [1]⟩,
    ⟨(some 10), (.mv (.s 9)), none, [2, 1]⟩,
    ⟨(some 11), (.mv (.s 2)), (some (10, false)), [3]⟩,
    ⟨(some 12), (.bin .lss (.s 11) (.c (.int .i64 1))), (some (10, false)), [4, 3]⟩,
    ⟨(some 13), (.pick (.s 10) (.c (.bool true)) (.s 12)), none, [3, 5]⟩,
    ⟨(some 14), (.mv (.s 13)), none, [6, 3]⟩,
    ⟨(some 15), (.mv (.s 2)), (some (14, false)), [7]⟩,
    ⟨(some 16), (.mv (.s 1)), (some (14, false)), [7]⟩,
    ⟨(some 17), (.bin .gtr (.s 15) (.s 16)), (some (14, false)), [8, 9, 7]⟩,
    ⟨(some 18), (.pick (.s 14) (.c (.bool true)) (.s 17)), none, [7, 10]⟩] false)
  (.cond (.s 18)
   (.seq (.region [
     ⟨(some 6), (.mv (.c (.int .u64 0))), none, []⟩] false)
   .ret)
   .skip))
  (.seq (.region [
    ⟨(some 19), (.mv (.s 0)), none, []⟩,
    ⟨(some 20), (.mv (.s 1)), none, []⟩,
    ⟨(some 21), (.call (.c (.fn 56 [])) [(.s 19), (.s 20)]), none, [0, 1]⟩,
    ⟨(some 22), (.mv (.s 2)), none, []⟩,
    ⟨(some 23), (.bin .sub (.s 22) (.c (.int .i64 1))), none, [3]⟩,
    ⟨(some 24), (.iad 1 (.s 21) (.s 23)), none, [2, 4]⟩,
    ⟨(some 25), (.ldc (.s 24)), none, [5]⟩,
    ⟨(some 26), (.cvi .u64 (.s 25)), none, [6]⟩,
    ⟨(some 6), (.mv (.s 26)), none, [7, 2, 0, 1, 2, 3, 4, 5, 6, 7]⟩] false)
  .ret))), false, (some [(Sh.int .u64), (Sh.int .i64), (Sh.int .i64)]), (some (Sh.int .u64))⟩

/-- euphroe/euphroelaw03.a0 -/
def k35 : Fun := ⟨2, 12, [0, 1, 4, 6], [(.tmp 4)],
  (.seq (.region [
    ⟨(some 4), (.mv (.c (.int .u64 0))), none, []⟩] false)
  (.seq (.seq (.region [
    ⟨(some 5), (.mv (.s 1)), none, []⟩,
    ⟨(some 6), (.bin .geq (.s 5) (.c (.int .i64 64))), none, [0]⟩] false)
  (.cond (.s 6)
   (.seq (.region [
     ⟨(some 7), (.mv (.s 0)), none, []⟩,
     ⟨(some 4), (.mv (.s 7)), none, [0, 0]⟩] false)
   .ret)
   .skip))
  (.seq (.region [
    ⟨(some 8), (.mv (.s 0)), none, []⟩,
    ⟨(some 9), (.mv (.s 1)), none, []⟩,
    ⟨(some 10), (.bin .shl (.c (.int .u64 1)) (.s 9)), none, [1]⟩,
    ⟨(some 11), (.bin .rem (.s 8) (.s 10)), none, [0, 2]⟩,
    ⟨(some 4), (.mv (.s 11)), none, [3, 0, 1, 2, 3]⟩] false)
  .ret))), false, (some [(Sh.int .u64), (Sh.int .i64)]), (some (Sh.int .u64))⟩

/-- euphroe/euphroeref03.Spread -/
def k36 : Fun := ⟨1, 42, [0, 2, 3, 4, 5, 6, 7, 10, 12, 24], [(.tmp 2), (.tmp 3)],
  (.seq (.region [
    ⟨(some 2), (.mv (.c .nils)), none, []⟩,
    ⟨(some 3), (.mv (.c (.int .i64 0))), none, [0]⟩] false)
  (.seq (.seq (.region [
    ⟨(some 8), (.mv (.s 0)), none, []⟩,
    ⟨(some 9), (.len false (.s 8)), none, [0]⟩,
    ⟨(some 10), (.bin .neq (.s 9) (.c (.int .i64 7))), none, [1]⟩] false)
  (.cond (.s 10)
   (.seq (.region [
     ⟨(some 2), (.mv (.c .nils)), none, []⟩,
     ⟨(some 3), (.mv (.c (.int .i64 1))), none, [0, 0]⟩] false)
   .ret)
   .skip))
  (.seq (.region [
    ⟨(some 4), (.mv (.c .nils)), none, []⟩,
    ⟨(some 5), (.mv (.c .nils)), none, [0]⟩] false)
  (.seq (.seq (.region [
    ⟨(some 6), (.mv (.c (.int .i64 0))), none, []⟩] false)
  (.block 0
   (.loop ⟨0, [], false, [0, 4, 5, 6], [(4, (.ints .u8 []), 1)]⟩
    (.seq (.seq (.region [
      ⟨(some 11), (.mv (.s 6)), none, []⟩,
      ⟨(some 12), (.bin .lss (.s 11) (.c (.int .i64 7))), none, [0]⟩] false)
    (.cond (.s 12)
     .skip
     (.pre ⟨0, [], false, [4, 5], []⟩ (.exit 0))))
    (.seq (.block 1
     (.region [
       ⟨(some 15), (.mv (.s 4)), none, []⟩,
       ⟨(some 16), (.mv (.s 0)), none, []⟩,
       ⟨(some 17), (.mv (.s 6)), none, []⟩,
       ⟨(some 18), (.iad 1 (.s 16) (.s 17)), none, [1, 2]⟩,
       ⟨(some 19), (.ldc (.s 18)), none, [3]⟩,
       ⟨(some 20), (.cvi .u64 (.s 19)), none, [4]⟩,
       ⟨(some 21), (.call (.c (.fn 56 [])) [(.s 20), (.c (.int .i64 8))]), none, [5]⟩,
       ⟨(some 22), (.app 1 1 (.s 15) (.s 21)), none, [0, 6, 6]⟩,
       ⟨(some 4), (.mv (.s 22)), none, [7, 7, 0, 1, 2, 3, 4, 5, 6, 7]⟩] false))
    (.region [
      ⟨(some 13), (.mv (.s 6)), none, []⟩,
      ⟨(some 14), (.bin .add (.s 13) (.c (.int .i64 1))), none, [0]⟩,
      ⟨(some 6), (.mv (.s 14)), none, [1, 0, 1]⟩] false))))))
  (.seq (.seq (.region [
    ⟨(some 7), (.mv (.c (.int .i64 0))), none, []⟩] false)
  (.block 2
   (.loop ⟨1, [], false, [4, 5, 7], [(5, (.ints .u8 []), 1)]⟩
    (.seq (.seq (.region [
      ⟨(some 23), (.mv (.s 7)), none, []⟩,
      ⟨(some 24), (.bin .lss (.s 23) (.c (.int .i64 8))), none, [0]⟩] false)
    (.cond (.s 24)
     .skip
     (.pre ⟨0, [], false, [5], []⟩ (.exit 2))))
    (.seq (.block 3
     (.region [
       ⟨(some 27), (.mv (.s 5)), none, []⟩,
       ⟨(some 28), (.mv (.s 4)), none, []⟩,
       ⟨(some 29), (.mv (.s 7)), none, []⟩,
       ⟨(some 30), (.bin .mul (.c (.int .i64 7)) (.s 29)), none, [2]⟩,
       ⟨(some 31), (.mv (.s 7)), none, []⟩,
       ⟨(some 32), (.bin .mul (.c (.int .i64 7)) (.s 31)), none, [4]⟩,
       ⟨(some 33), (.bin .add (.s 32) (.c (.int .i64 7))), none, [5]⟩,
       ⟨(some 34), (.sls 1 (.s 28) (some (.s 30)) (some (.s 33)) none), none, [1, 3, 6]⟩,
       ⟨(some 35), (.call (.c (.fn 57 [])) [(.s 34)]), none, [7]⟩,
       ⟨(some 36), (.bin .mul (.c (.int .u64 2)) (.s 35)), none, [8]⟩,
       ⟨(some 37), (.cvi .u8 (.s 36)), none, [9]⟩,
       ⟨(some 38), (.call (.c (.fn 39 [])) [(.s 37)]), none, [10, 8]⟩,
       ⟨(some 39), (.bsl 1 1 (.ints .u8 [0]) [(0, 1, (.s 38))]), none, [11]⟩,
       ⟨(some 40), (.app 1 1 (.s 27) (.s 39)), none, [0, 12, 11]⟩,
       ⟨(some 5), (.mv (.s 40)), none, [13, 13, 0, 1, 2, 3, 4, 5, 6, 7, 8, 9, 10, 11, 12, 13]⟩] false))
    (.region [
      ⟨(some 25), (.mv (.s 7)), none, []⟩,
      ⟨(some 26), (.bin .add (.s 25) (.c (.int .i64 1))), none, [0]⟩,
      ⟨(some 7), (.mv (.s 26)), none, [1, 0, 1]⟩] false))))))
  (.seq (.region [
    ⟨(some 41), (.mv (.s 5)), none, []⟩,
    ⟨(some 2), (.mv (.s 41)), none, [0, 0]⟩,
    ⟨(some 3), (.mv (.c (.int .i64 0))), none, [1, 0, 1]⟩] false)
  .ret)))))), false, (some [(Sh.sl (Sh.int .u8))]), (some (Sh.tu (Sh.pr (Sh.sl (Sh.int .u8)) (Sh.int .i64))))⟩

/-- euphroe/bitp.Gather -/
def k37 : Fun := ⟨1, 42, [0, 2, 3, 4, 6, 7, 8, 11, 12, 13, 14, 15, 27, 28, 29], [(.tmp 2), (.tmp 3)],
  (.seq (.region [
    ⟨(some 2), (.mv (.c .nils)), none, []⟩,
    ⟨(some 3), (.mv (.c (.int .i64 0))), none, [0]⟩] false)
  (.seq (.seq (.region [
    ⟨(some 9), (.mv (.s 0)), none, []⟩,
    ⟨(some 10), (.len false (.s 9)), none, [0]⟩,
    ⟨(some 11), (.bin .neq (.s 10) (.c (.int .i64 8))), none, [1]⟩] false)
  (.cond (.s 11)
   (.seq (.region [
     ⟨(some 2), (.mv (.c .nils)), none, []⟩,
     ⟨(some 3), (.mv (.c (.int .i64 1))), none, [0, 0]⟩] false)
   .ret)
   .skip))
  (.seq (.region [
    ⟨(some 4), (.mv (.c (.int .u64 0))), none, []⟩] false)
  (.seq (.seq (.region [
    ⟨(some 12), (.mv (.s 0)), none, []⟩,
    ⟨(some 13), (.len false (.s 12)), none, [0]⟩,
    ⟨(some 14), (.mv (.c (.int .i64 0))), none, []⟩] false)
  (.block 0
   (.loop ⟨0, [], false, [4, 12, 13, 14], []⟩
    (.seq (.region [
      ⟨(some 15), (.bin .lss (.s 14) (.s 13)), none, []⟩] false)
    (.seq (.cond (.s 15)
     .skip
     (.pre ⟨0, [], false, [4], []⟩ (.exit 0)))
    (.seq (.block 1
     (.seq (.region [
       ⟨(some 16), (.iad 1 (.s 12) (.s 14)), none, []⟩,
       ⟨(some 17), (.ldc (.s 16)), none, [0]⟩,
       ⟨(some 6), (.mv (.s 17)), none, [1, 0, 1]⟩] false)
     (.region [
       ⟨(some 18), (.mv (.s 4)), none, []⟩,
       ⟨(some 19), (.bin .shl (.s 18) (.c (.int .u64 7))), none, [0]⟩,
       ⟨(some 20), (.mv (.s 6)), none, []⟩,
       ⟨(some 21), (.bin .shr (.s 20) (.c (.int .u64 1))), none, [2]⟩,
       ⟨(some 22), (.cvi .u64 (.s 21)), none, [3]⟩,
       ⟨(some 23), (.bin .or (.s 19) (.s 22)), none, [1, 4]⟩,
       ⟨(some 4), (.mv (.s 23)), none, [5, 0, 1, 2, 3, 4, 5]⟩] false)))
    (.region [
      ⟨(some 24), (.bin .add (.s 14) (.c (.int .i64 1))), none, []⟩,
      ⟨(some 14), (.mv (.s 24)), none, [0]⟩] false)))))))
  (.seq (.region [
    ⟨(some 25), (.mks (.ints .u8 [0]) 1 1 (.c (.int .i64 7)) (.c (.int .i64 7))), none, []⟩,
    ⟨(some 7), (.mv (.s 25)), none, [0, 0]⟩] false)
  (.seq (.seq (.region [
    ⟨(some 26), (.mv (.s 7)), none, []⟩,
    ⟨(some 27), (.len false (.s 26)), none, [0]⟩,
    ⟨(some 28), (.mv (.c (.int .i64 0))), none, []⟩] false)
  (.block 2
   (.loop ⟨1, [], false, [4, 7, 27, 28], []⟩
    (.seq (.region [
      ⟨(some 29), (.bin .lss (.s 28) (.s 27)), none, []⟩] false)
    (.seq (.cond (.s 29)
     .skip
     (.pre ⟨0, [], false, [7], []⟩ (.exit 2)))
    (.seq (.block 3
     (.seq (.region [
       ⟨(some 30), (.mv (.s 28)), none, []⟩,
       ⟨(some 8), (.mv (.s 30)), none, [0, 0]⟩] false)
     (.region [
       ⟨(some 31), (.mv (.s 7)), none, []⟩,
       ⟨(some 32), (.mv (.s 8)), none, []⟩,
       ⟨(some 33), (.mv (.s 4)), none, []⟩,
       ⟨(some 34), (.mv (.s 8)), none, []⟩,
       ⟨(some 35), (.bin .sub (.c (.int .i64 6)) (.s 34)), none, [3]⟩,
       ⟨(some 36), (.bin .mul (.c (.int .i64 8)) (.s 35)), none, [4]⟩,
       ⟨(some 37), (.bin .shr (.s 33) (.s 36)), none, [2, 5]⟩,
       ⟨(some 38), (.cvi .u8 (.s 37)), none, [6]⟩,
       ⟨(some 39), (.iad 1 (.s 31) (.s 32)), none, [0, 1, 0, 1, 2, 3, 4, 5, 6, 7]⟩,
       ⟨none, (.stc 1 (.s 39) (.s 38)), none, [8, 7, 0, 1, 2, 3, 4, 5, 6, 7]⟩] false)))
    (.region [
      ⟨(some 40), (.bin .add (.s 28) (.c (.int .i64 1))), none, []⟩,
      ⟨(some 28), (.mv (.s 40)), none, [0]⟩] false)))))))
  (.seq (.region [
    ⟨(some 41), (.mv (.s 7)), none, []⟩,
    ⟨(some 2), (.mv (.s 41)), none, [0, 0]⟩,
    ⟨(some 3), (.mv (.c (.int .i64 0))), none, [1, 0, 1]⟩] false)
  .ret))))))), false, (some [(Sh.sl (Sh.int .u8))]), (some (Sh.tu (Sh.pr (Sh.sl (Sh.int .u8)) (Sh.int .i64))))⟩

/-- euphroe/euphroeref03.Gather -/
def k38 : Fun := ⟨1, 41, [0, 2, 3, 4, 5, 6, 7, 10, 12, 25], [(.tmp 2), (.tmp 3)],
  (.seq (.region [
    ⟨(some 2), (.mv (.c .nils)), none, []⟩,
    ⟨(some 3), (.mv (.c (.int .i64 0))), none, [0]⟩] false)
  (.seq (.seq (.region [
    ⟨(some 8), (.mv (.s 0)), none, []⟩,
    ⟨(some 9), (.len false (.s 8)), none, [0]⟩,
    ⟨(some 10), (.bin .neq (.s 9) (.c (.int .i64 8))), none, [1]⟩] false)
  (.cond (.s 10)
   (.seq (.region [
     ⟨(some 2), (.mv (.c .nils)), none, []⟩,
     ⟨(some 3), (.mv (.c (.int .i64 1))), none, [0, 0]⟩] false)
   .ret)
   .skip))
  (.seq (.region [
    ⟨(some 4), (.mv (.c .nils)), none, []⟩,
    ⟨(some 5), (.mv (.c .nils)), none, [0]⟩] false)
  (.seq (.seq (.region [
    ⟨(some 6), (.mv (.c (.int .i64 0))), none, []⟩] false)
  (.block 0
   (.loop ⟨0, [], false, [0, 4, 5, 6], [(4, (.ints .u8 []), 1)]⟩
    (.seq (.seq (.region [
      ⟨(some 11), (.mv (.s 6)), none, []⟩,
      ⟨(some 12), (.bin .lss (.s 11) (.c (.int .i64 8))), none, [0]⟩] false)
    (.cond (.s 12)
     .skip
     (.pre ⟨0, [], false, [4, 5], []⟩ (.exit 0))))
    (.seq (.block 1
     (.region [
       ⟨(some 15), (.mv (.s 4)), none, []⟩,
       ⟨(some 16), (.mv (.s 0)), none, []⟩,
       ⟨(some 17), (.mv (.s 6)), none, []⟩,
       ⟨(some 18), (.iad 1 (.s 16) (.s 17)), none, [1, 2]⟩,
       ⟨(some 19), (.ldc (.s 18)), none, [3]⟩,
       ⟨(some 20), (.cvi .u64 (.s 19)), none, [4]⟩,
       ⟨(some 21), (.call (.c (.fn 56 [])) [(.s 20), (.c (.int .i64 8))]), none, [5]⟩,
       ⟨(some 22), (.sls 1 (.s 21) none (some (.c (.int .i64 7))) none), none, [6]⟩,
       ⟨(some 23), (.app 1 1 (.s 15) (.s 22)), none, [0, 7, 6]⟩,
       ⟨(some 4), (.mv (.s 23)), none, [8, 8, 0, 1, 2, 3, 4, 5, 6, 7, 8]⟩] false))
    (.region [
      ⟨(some 13), (.mv (.s 6)), none, []⟩,
      ⟨(some 14), (.bin .add (.s 13) (.c (.int .i64 1))), none, [0]⟩,
      ⟨(some 6), (.mv (.s 14)), none, [1, 0, 1]⟩] false))))))
  (.seq (.seq (.region [
    ⟨(some 7), (.mv (.c (.int .i64 0))), none, []⟩] false)
  (.block 2
   (.loop ⟨1, [], false, [4, 5, 7], [(5, (.ints .u8 []), 1)]⟩
    (.seq (.seq (.region [
      ⟨(some 24), (.mv (.s 7)), none, []⟩,
      ⟨(some 25), (.bin .lss (.s 24) (.c (.int .i64 7))), none, [0]⟩] false)
    (.cond (.s 25)
     .skip
     (.pre ⟨0, [], false, [5], []⟩ (.exit 2))))
    (.seq (.block 3
     (.region [
       ⟨(some 28), (.mv (.s 5)), none, []⟩,
       ⟨(some 29), (.mv (.s 4)), none, []⟩,
       ⟨(some 30), (.mv (.s 7)), none, []⟩,
       ⟨(some 31), (.bin .mul (.c (.int .i64 8)) (.s 30)), none, [2]⟩,
       ⟨(some 32), (.mv (.s 7)), none, []⟩,
       ⟨(some 33), (.bin .mul (.c (.int .i64 8)) (.s 32)), none, [4]⟩,
       ⟨(some 34), (.bin .add (.s 33) (.c (.int .i64 8))), none, [5]⟩,
       ⟨(some 35), (.sls 1 (.s 29) (some (.s 31)) (some (.s 34)) none), none, [1, 3, 6]⟩,
       ⟨(some 36), (.call (.c (.fn 57 [])) [(.s 35)]), none, [7]⟩,
       ⟨(some 37), (.cvi .u8 (.s 36)), none, [8]⟩,
       ⟨(some 38), (.bsl 1 1 (.ints .u8 [0]) [(0, 1, (.s 37))]), none, [9]⟩,
       ⟨(some 39), (.app 1 1 (.s 28) (.s 38)), none, [0, 10, 8]⟩,
       ⟨(some 5), (.mv (.s 39)), none, [11, 11, 0, 1, 2, 3, 4, 5, 6, 7, 8, 9, 10, 11]⟩] false))
    (.region [
      ⟨(some 26), (.mv (.s 7)), none, []⟩,
      ⟨(some 27), (.bin .add (.s 26) (.c (.int .i64 1))), none, [0]⟩,
      ⟨(some 7), (.mv (.s 27)), none, [1, 0, 1]⟩] false))))))
  (.seq (.region [
    ⟨(some 40), (.mv (.s 5)), none, []⟩,
    ⟨(some 2), (.mv (.s 40)), none, [0, 0]⟩,
    ⟨(some 3), (.mv (.c (.int .i64 0))), none, [1, 0, 1]⟩] false)
  .ret)))))), false, (some [(Sh.sl (Sh.int .u8))]), (some (Sh.tu (Sh.pr (Sh.sl (Sh.int .u8)) (Sh.int .i64))))⟩

/-- euphroe/euphroeref03.Odd -/
def k39 : Fun := ⟨1, 23, [0, 2, 3, 4, 6], [(.tmp 2)],
  (.seq (.region [
    ⟨(some 2), (.mv (.c (.int .u8 0))), none, []⟩] false)
  (.seq (.region [
    ⟨(some 3), (.mv (.c (.int .u8 0))), none, []⟩] false)
  (.seq (.seq (.region [
    ⟨(some 4), (.mv (.c (.int .i64 1))), none, []⟩] false)
  (.block 0
   (.loop ⟨0, [], false, [0, 3, 4], []⟩
    (.seq (.seq (.region [
      ⟨(some 5), (.mv (.s 4)), none, []⟩,
      ⟨(some 6), (.bin .lss (.s 5) (.c (.int .i64 8))), none, [0]⟩] false)
    (.cond (.s 6)
     .skip
     (.pre ⟨0, [], false, [0, 3], []⟩ (.exit 0))))
    (.seq (.block 1
     (.region [
       ⟨(some 9), (.mv (.s 3)), none, []⟩,
       ⟨(some 10), (.mv (.s 0)), none, []⟩,
       ⟨(some 11), (.mv (.s 4)), none, []⟩,
       ⟨(some 12), (.bin .shr (.s 10) (.s 11)), none, [1, 2]⟩,
       ⟨(some 13), (.bin .rem (.s 12) (.c (.int .u8 2))), none, [3]⟩,
       ⟨(some 14), (.bin .add (.s 9) (.s 13)), none, [0, 4]⟩,
       ⟨(some 3), (.mv (.s 14)), none, [5, 0, 1, 2, 3, 4, 5]⟩] false))
    (.region [
      ⟨(some 7), (.mv (.s 4)), none, []⟩,
      ⟨(some 8), (.bin .add (.s 7) (.c (.int .i64 1))), none, [0]⟩,
      ⟨(some 4), (.mv (.s 8)), none, [1, 0, 1]⟩] false))))))
  (.seq (.region [
    ⟨(some 15), (.mv (.s 0)), none, []⟩,
    ⟨(some 16), (.mv (.s 0)), none, []⟩,
    ⟨(some 17), (.bin .rem (.s 16) (.c (.int .u8 2))), none, [1]⟩,
    ⟨(some 18), (.bin .sub (.s 15) (.s 17)), none, [0, 2]⟩,
    ⟨(some 19), (.mv (.s 3)), none, []⟩,
    ⟨(some 20), (.bin .add (.s 19) (.c (.int .u8 1))), none, [4]⟩,
    ⟨(some 21), (.bin .rem (.s 20) (.c (.int .u8 2))), none, [5]⟩,
    ⟨(some 22), (.bin .add (.s 18) (.s 21)), none, [3, 6]⟩,
    ⟨(some 2), (.mv (.s 22)), none, [7, 0, 1, 2, 3, 4, 5, 6, 7]⟩] false)
  .ret)))), false, (some [(Sh.int .u8)]), (some (Sh.int .u8))⟩

/-- euphroe/octs.Unhex -/
def k40 : Fun := ⟨1, 30, [0, 2, 3, 4, 5, 9, 11, 22], [(.tmp 2), (.tmp 3)],
  (.seq (.region [
    ⟨(some 2), (.mv (.c .nils)), none, []⟩,
    ⟨(some 3), (.mv (.c (.int .i64 0))), none, [0]⟩] false)
  (.scope
   (.seq (.seq (.region [
     ⟨(some 6), (.mv (.s 0)), none, []⟩,
     ⟨(some 7), (.len true (.s 6)), none, [0]⟩,
     ⟨(some 8), (.bin .rem (.s 7) (.c (.int .i64 2))), none, [1]⟩,
     ⟨(some 9), (.bin .neq (.s 8) (.c (.int .i64 0))), none, [2]⟩] false)
   (.cond (.s 9)
    (.seq (.region [
      ⟨(some 2), (.mv (.c .nils)), none, []⟩,
      ⟨(some 3), (.mv (.c (.int .i64 3))), none, [0, 0]⟩] false)
    .ret)
    .skip))
   (.seq (.region [
     ⟨(some 4), (.mv (.c .nils)), none, []⟩] false)
   (.seq (.label 0)
   (.seq (.seq (.region [
     ⟨(some 10), (.mv (.s 0)), none, []⟩,
     ⟨(some 11), (.bin .eql (.s 10) (.c (.str []))), none, [0]⟩] false)
   (.cond (.s 11)
    (.seq (.region [
      ⟨(some 12), (.mv (.s 4)), none, []⟩,
      ⟨(some 2), (.mv (.s 12)), none, [0, 0]⟩,
      ⟨(some 3), (.mv (.c (.int .i64 0))), none, [1, 0, 1]⟩] false)
    .ret)
    .skip))
   (.seq (.region [
     ⟨(some 13), (.mv (.s 0)), none, []⟩,
     ⟨(some 14), (.ixs (.s 13) (.c (.int .i64 0))), none, [0]⟩,
     ⟨(some 15), (.call (.c (.fn 59 [])) [(.s 14)]), none, [1]⟩,
     ⟨(some 16), (.bin .shl (.s 15) (.c (.int .u64 4))), none, [2]⟩,
     ⟨(some 17), (.mv (.s 0)), none, []⟩,
     ⟨(some 18), (.ixs (.s 17) (.c (.int .i64 1))), none, [4]⟩,
     ⟨(some 19), (.call (.c (.fn 59 [])) [(.s 18)]), none, [5, 2]⟩,
     ⟨(some 20), (.bin .or (.s 16) (.s 19)), none, [3, 6]⟩,
     ⟨(some 5), (.mv (.s 20)), none, [7, 6, 0, 1, 2, 3, 4, 5, 6, 7]⟩] true)
   (.seq (.seq (.region [
     ⟨(some 21), (.mv (.s 5)), none, []⟩,
     ⟨(some 22), (.bin .lss (.s 21) (.c (.int .i64 0))), none, [0]⟩] false)
   (.cond (.s 22)
    (.seq (.region [
      ⟨(some 2), (.mv (.c .nils)), none, []⟩,
      ⟨(some 3), (.mv (.c (.int .i64 3))), none, [0, 0]⟩] false)
    .ret)
    .skip))
   (.seq (.region [
     ⟨(some 23), (.mv (.s 4)), none, []⟩,
     ⟨(some 24), (.mv (.s 5)), none, []⟩,
     ⟨(some 25), (.cvi .u8 (.s 24)), none, [1]⟩,
     ⟨(some 26), (.bsl 1 1 (.ints .u8 [0]) [(0, 1, (.s 25))]), none, [2]⟩,
     ⟨(some 27), (.app 1 1 (.s 23) (.s 26)), none, [0, 3]⟩,
     ⟨(some 4), (.mv (.s 27)), none, [4, 4, 0, 1, 2, 3, 4]⟩] false)
   (.seq (.region [
     ⟨(some 28), (.mv (.s 0)), none, []⟩,
     ⟨(some 29), (.ssl (.s 28) (some (.c (.int .i64 2))) none), none, [0]⟩,
     ⟨(some 0), (.mv (.s 29)), none, [1, 0, 1]⟩] false)
   (.goto 0))))))))))), false, (some [Sh.str]), (some (Sh.tu (Sh.pr (Sh.sl (Sh.int .u8)) (Sh.int .i64))))⟩

/-- euphroe/euphroeref01.Unhex -/
def k41 : Fun := ⟨1, 41, [0, 2, 3, 4, 5, 6, 7, 11, 15, 32], [(.tmp 2), (.tmp 3)],
  (.seq (.region [
    ⟨(some 2), (.mv (.c .nils)), none, []⟩,
    ⟨(some 3), (.mv (.c (.int .i64 0))), none, [0]⟩] false)
  (.seq (.seq (.region [
    ⟨(some 8), (.mv (.s 0)), none, []⟩,
    ⟨(some 9), (.len true (.s 8)), none, [0]⟩,
    ⟨(some 10), (.bin .rem (.s 9) (.c (.int .i64 2))), none, [1]⟩,
    ⟨(some 11), (.bin .neq (.s 10) (.c (.int .i64 0))), none, [2]⟩] false)
  (.cond (.s 11)
   (.seq (.region [
     ⟨(some 2), (.mv (.c .nils)), none, []⟩,
     ⟨(some 3), (.mv (.c (.int .i64 3))), none, [0, 0]⟩] false)
   .ret)
   .skip))
  (.seq (.region [
    ⟨(some 4), (.mv (.c .nils)), none, []⟩] false)
  (.seq (.seq (.region [
    ⟨(some 5), (.mv (.c (.int .i64 0))), none, []⟩] false)
  (.block 0
   (.loop ⟨0, [], false, [0, 4, 5], [(4, (.ints .u8 []), 1)]⟩
    (.seq (.seq (.region [
      ⟨(some 12), (.mv (.s 5)), none, []⟩,
      ⟨(some 13), (.mv (.s 0)), none, []⟩,
      ⟨(some 14), (.len true (.s 13)), none, [1]⟩,
      ⟨(some 15), (.bin .lss (.s 12) (.s 14)), none, [0, 2]⟩] false)
    (.cond (.s 15)
     .skip
     (.pre ⟨0, [], false, [4], []⟩ (.exit 0))))
    (.seq (.block 1
     (.seq (.region [
       ⟨(some 18), (.mv (.s 0)), none, []⟩,
       ⟨(some 19), (.mv (.s 5)), none, []⟩,
       ⟨(some 20), (.ixs (.s 18) (.s 19)), none, [0, 1]⟩,
       ⟨(some 21), (.call (.c (.fn 60 [])) [(.s 20)]), none, [2]⟩,
       ⟨(some 22), (.mv (.s 0)), none, []⟩,
       ⟨(some 23), (.mv (.s 5)), none, []⟩,
       ⟨(some 24), (.bin .add (.s 23) (.c (.int .i64 1))), none, [5]⟩,
       ⟨(some 25), (.ixs (.s 22) (.s 24)), none, [4, 6]⟩,
       ⟨(some 26), (.call (.c (.fn 60 [])) [(.s 25)]), none, [7, 3]⟩,
       ⟨(some 6), (.mv (.s 21)), none, [3, 8, 0, 1, 2, 3]⟩,
       ⟨(some 7), (.mv (.s 26)), none, [8, 9, 0, 1, 2, 3, 4, 5, 6, 7, 8, 9]⟩] true)
     (.seq (.seq (.region [
       ⟨(some 27), (.mv (.s 6)), none, []⟩,
       ⟨(some 28), (.bin .gtr (.s 27) (.c (.int .u8 15))), none, [0]⟩,
       ⟨(some 29), (.mv (.s 28)), none, [1]⟩,
       ⟨(some 30), (.mv (.s 7)), (some (29, false)), [2]⟩,
       ⟨(some 31), (.bin .gtr (.s 30) (.c (.int .u8 15))), (some (29, false)), [3, 2]⟩,
       ⟨(some 32), (.pick (.s 29) (.c (.bool true)) (.s 31)), none, [2, 4]⟩] false)
     (.cond (.s 32)
      (.seq (.region [
        ⟨(some 2), (.mv (.c .nils)), none, []⟩,
        ⟨(some 3), (.mv (.c (.int .i64 3))), none, [0, 0]⟩] false)
      .ret)
      .skip))
     (.region [
       ⟨(some 33), (.mv (.s 4)), none, []⟩,
       ⟨(some 34), (.mv (.s 6)), none, []⟩,
       ⟨(some 35), (.bin .mul (.c (.int .u8 16)) (.s 34)), none, [1]⟩,
       ⟨(some 36), (.mv (.s 7)), none, []⟩,
       ⟨(some 37), (.bin .add (.s 35) (.s 36)), none, [2, 3]⟩,
       ⟨(some 38), (.bsl 1 1 (.ints .u8 [0]) [(0, 1, (.s 37))]), none, [4]⟩,
       ⟨(some 39), (.app 1 1 (.s 33) (.s 38)), none, [0, 5]⟩,
       ⟨(some 4), (.mv (.s 39)), none, [6, 6, 0, 1, 2, 3, 4, 5, 6]⟩] false))))
    (.region [
      ⟨(some 16), (.mv (.s 5)), none, []⟩,
      ⟨(some 17), (.bin .add (.s 16) (.c (.int .i64 2))), none, [0]⟩,
      ⟨(some 5), (.mv (.s 17)), none, [1, 0, 1]⟩] false))))))
  (.seq (.region [
    ⟨(some 40), (.mv (.s 4)), none, []⟩,
    ⟨(some 2), (.mv (.s 40)), none, [0, 0]⟩,
    ⟨(some 3), (.mv (.c (.int .i64 0))), none, [1, 0, 1]⟩] false)
  .ret))))), false, (some [Sh.str]), (some (Sh.tu (Sh.pr (Sh.sl (Sh.int .u8)) (Sh.int .i64))))⟩

/-- euphroe/octs.Hex -/
def k42 : Fun := ⟨1, 28, [0, 2, 3, 5, 10, 11, 12, 13], [(.tmp 2)],
  (.seq (.region [
    ⟨(some 2), (.mv (.c (.str []))), none, []⟩] false)
  (.seq (.region [
    ⟨(some 6), (.mv (.s 0)), none, []⟩,
    ⟨(some 7), (.len false (.s 6)), none, [0]⟩,
    ⟨(some 8), (.bin .mul (.c (.int .i64 2)) (.s 7)), none, [1]⟩,
    ⟨(some 9), (.mks (.ints .u8 [0]) 1 1 (.c (.int .i64 0)) (.s 8)), none, [2]⟩,
    ⟨(some 3), (.mv (.s 9)), none, [3, 0, 1, 2, 3]⟩] false)
  (.seq (.seq (.region [
    ⟨(some 10), (.mv (.s 0)), none, []⟩,
    ⟨(some 11), (.len false (.s 10)), none, [0]⟩,
    ⟨(some 12), (.mv (.c (.int .i64 0))), none, []⟩] false)
  (.block 0
   (.loop ⟨0, [], false, [3, 10, 11, 12], [(3, (.imm []), 1)]⟩
    (.seq (.region [
      ⟨(some 13), (.bin .lss (.s 12) (.s 11)), none, []⟩] false)
    (.seq (.cond (.s 13)
     .skip
     (.pre ⟨0, [], false, [3], []⟩ (.exit 0)))
    (.seq (.block 1
     (.seq (.region [
       ⟨(some 14), (.iad 1 (.s 10) (.s 12)), none, []⟩,
       ⟨(some 15), (.ldc (.s 14)), none, [0]⟩,
       ⟨(some 5), (.mv (.s 15)), none, [1, 0, 1]⟩] false)
     (.region [
       ⟨(some 16), (.mv (.s 3)), none, []⟩,
       ⟨(some 17), (.mv (.s 5)), none, []⟩,
       ⟨(some 18), (.bin .shr (.s 17) (.c (.int .u64 4))), none, [1]⟩,
       ⟨(some 19), (.ixs (.c (.str [48, 49, 50, 51, 52, 53, 54, 55, 56, 57, 65, 66, 67, 68, 69, 70])) (.s 18)), none, [2]⟩,
       ⟨(some 20), (.mv (.s 5)), none, []⟩,
       ⟨(some 21), (.bin .and (.s 20) (.c (.int .u8 15))), none, [4]⟩,
       ⟨(some 22), (.ixs (.c (.str [48, 49, 50, 51, 52, 53, 54, 55, 56, 57, 65, 66, 67, 68, 69, 70])) (.s 21)), none, [5]⟩,
       ⟨(some 23), (.bsl 2 1 (.ints .u8 [0, 0]) [(0, 1, (.s 19)), (1, 1, (.s 22))]), none, [3, 6]⟩,
       ⟨(some 24), (.app 1 1 (.s 16) (.s 23)), none, [0, 7]⟩,
       ⟨(some 3), (.mv (.s 24)), none, [8, 8, 0, 1, 2, 3, 4, 5, 6, 7, 8]⟩] true)))
    (.region [
      ⟨(some 25), (.bin .add (.s 12) (.c (.int .i64 1))), none, []⟩,
      ⟨(some 12), (.mv (.s 25)), none, [0]⟩] false)))))))
  (.seq (.region [
    ⟨(some 26), (.mv (.s 3)), none, []⟩,
    ⟨(some 27), (.b2s (.s 26)), none, [0]⟩,
    ⟨(some 2), (.mv (.s 27)), none, [1, 0, 1]⟩] false)
  .ret)))), false, (some [(Sh.sl (Sh.int .u8))]), (some Sh.str)⟩

/-- euphroe/euphroeref01.Hex -/
def k43 : Fun := ⟨1, 40, [0, 2, 3, 4, 5, 6, 7, 11], [(.tmp 2)],
  (.seq (.region [
    ⟨(some 2), (.mv (.c (.str []))), none, []⟩] false)
  (.seq (.region [
    ⟨(some 3), (.mv (.c (.str [48, 49, 50, 51, 52, 53, 54, 55, 56, 57, 65, 66, 67, 68, 69, 70]))), none, []⟩] false)
  (.seq (.region [
    ⟨(some 4), (.mv (.c (.str []))), none, []⟩] false)
  (.seq (.seq (.region [
    ⟨(some 5), (.mv (.c (.int .i64 0))), none, []⟩] false)
  (.block 0
   (.loop ⟨0, [], false, [0, 3, 4, 5], []⟩
    (.seq (.seq (.region [
      ⟨(some 8), (.mv (.s 5)), none, []⟩,
      ⟨(some 9), (.mv (.s 0)), none, []⟩,
      ⟨(some 10), (.len false (.s 9)), none, [1]⟩,
      ⟨(some 11), (.bin .lss (.s 8) (.s 10)), none, [0, 2]⟩] false)
    (.cond (.s 11)
     .skip
     (.pre ⟨0, [], false, [4], []⟩ (.exit 0))))
    (.seq (.block 1
     (.seq (.region [
       ⟨(some 14), (.mv (.s 0)), none, []⟩,
       ⟨(some 15), (.mv (.s 5)), none, []⟩,
       ⟨(some 16), (.iad 1 (.s 14) (.s 15)), none, [0, 1]⟩,
       ⟨(some 17), (.ldc (.s 16)), none, [2]⟩,
       ⟨(some 18), (.bin .quo (.s 17) (.c (.int .u8 16))), none, [3]⟩,
       ⟨(some 19), (.cvi .i64 (.s 18)), none, [4]⟩,
       ⟨(some 20), (.mv (.s 0)), none, []⟩,
       ⟨(some 21), (.mv (.s 5)), none, []⟩,
       ⟨(some 22), (.iad 1 (.s 20) (.s 21)), none, [6, 7]⟩,
       ⟨(some 23), (.ldc (.s 22)), none, [8]⟩,
       ⟨(some 24), (.bin .rem (.s 23) (.c (.int .u8 16))), none, [9]⟩,
       ⟨(some 25), (.cvi .i64 (.s 24)), none, [10]⟩,
       ⟨(some 6), (.mv (.s 19)), none, [5, 0, 1, 2, 3, 4, 5]⟩,
       ⟨(some 7), (.mv (.s 25)), none, [11, 12, 0, 1, 2, 3, 4, 5, 6, 7, 8, 9, 10, 11, 12]⟩] true)
     (.region [
       ⟨(some 26), (.mv (.s 4)), none, []⟩,
       ⟨(some 27), (.mv (.s 3)), none, []⟩,
       ⟨(some 28), (.mv (.s 6)), none, []⟩,
       ⟨(some 29), (.mv (.s 6)), none, []⟩,
       ⟨(some 30), (.bin .add (.s 29) (.c (.int .i64 1))), none, [3]⟩,
       ⟨(some 31), (.ssl (.s 27) (some (.s 28)) (some (.s 30))), none, [1, 2, 4]⟩,
       ⟨(some 32), (.mv (.s 3)), none, []⟩,
       ⟨(some 33), (.mv (.s 7)), none, []⟩,
       ⟨(some 34), (.mv (.s 7)), none, []⟩,
       ⟨(some 35), (.bin .add (.s 34) (.c (.int .i64 1))), none, [8]⟩,
       ⟨(some 36), (.ssl (.s 32) (some (.s 33)) (some (.s 35))), none, [6, 7, 9]⟩,
       ⟨(some 37), (.bin .add (.s 31) (.s 36)), none, [5, 10]⟩,
       ⟨(some 38), (.bin .add (.s 26) (.s 37)), none, [0, 11]⟩,
       ⟨(some 4), (.mv (.s 38)), none, [12, 0, 1, 2, 3, 4, 5, 6, 7, 8, 9, 10, 11, 12]⟩] true)))
    (.region [
      ⟨(some 12), (.mv (.s 5)), none, []⟩,
      ⟨(some 13), (.bin .add (.s 12) (.c (.int .i64 1))), none, [0]⟩,
      ⟨(some 5), (.mv (.s 13)), none, [1, 0, 1]⟩] false))))))
  (.seq (.region [
    ⟨(some 39), (.mv (.s 4)), none, []⟩,
    ⟨(some 2), (.mv (.s 39)), none, [0, 0]⟩] false)
  .ret))))), false, (some [(Sh.sl (Sh.int .u8))]), (some Sh.str)⟩

/-- euphroe/octs.Xor -/
def k44 : Fun := ⟨2, 32, [0, 1, 4, 5, 6, 7, 8, 13, 16, 17, 18, 19], [(.tmp 4), (.tmp 5)],
  (.seq (.region [
    ⟨(some 4), (.mv (.c .nils)), none, []⟩,
    ⟨(some 5), (.mv (.c (.int .i64 0))), none, [0]⟩] false)
  (.seq (.seq (.region [
    ⟨(some 9), (.mv (.s 0)), none, []⟩,
    ⟨(some 10), (.len false (.s 9)), none, [0]⟩,
    ⟨(some 11), (.mv (.s 1)), none, []⟩,
    ⟨(some 12), (.len false (.s 11)), none, [2]⟩,
    ⟨(some 13), (.bin .neq (.s 10) (.s 12)), none, [1, 3]⟩] false)
  (.cond (.s 13)
   (.seq (.region [
     ⟨(some 4), (.mv (.c .nils)), none, []⟩,
     ⟨(some 5), (.mv (.c (.int .i64 1))), none, [0, 0]⟩] false)
   .ret)
   .skip))
  (.seq (.region [
    ⟨(some 14), (.mv (.s 0)), none, []⟩,
    ⟨(some 15), (.call (.c (.fn 61 [])) [(.s 14)]), none, [0]⟩,
    ⟨(some 6), (.mv (.s 15)), none, [1, 1, 0, 1]⟩] false)
  (.seq (.seq (.region [
    ⟨(some 16), (.mv (.s 1)), none, []⟩,
    ⟨(some 17), (.len false (.s 16)), none, [0]⟩,
    ⟨(some 18), (.mv (.c (.int .i64 0))), none, []⟩] false)
  (.block 0
   (.loop ⟨0, [], false, [6, 16, 17, 18], []⟩
    (.seq (.region [
      ⟨(some 19), (.bin .lss (.s 18) (.s 17)), none, []⟩] false)
    (.seq (.cond (.s 19)
     .skip
     (.pre ⟨0, [], false, [6], []⟩ (.exit 0)))
    (.seq (.block 1
     (.seq (.region [
       ⟨(some 20), (.mv (.s 18)), none, []⟩,
       ⟨(some 21), (.iad 1 (.s 16) (.s 18)), none, []⟩,
       ⟨(some 22), (.ldc (.s 21)), none, [1]⟩,
       ⟨(some 7), (.mv (.s 20)), none, [0, 0, 1, 2]⟩,
       ⟨(some 8), (.mv (.s 22)), none, [2, 3, 0, 1, 2, 3]⟩] false)
     (.region [
       ⟨(some 23), (.mv (.s 6)), none, []⟩,
       ⟨(some 24), (.mv (.s 7)), none, []⟩,
       ⟨(some 25), (.iad 1 (.s 23) (.s 24)), none, [0, 1]⟩,
       ⟨(some 26), (.ldc (.s 25)), none, [2]⟩,
       ⟨(some 27), (.mv (.s 8)), none, []⟩,
       ⟨(some 28), (.bin .xor (.s 26) (.s 27)), none, [3, 4]⟩,
       ⟨(some 29), (.iad 1 (.s 23) (.s 24)), none, [0, 1, 0, 1, 2, 3, 4, 5]⟩,
       ⟨none, (.stc 1 (.s 29) (.s 28)), none, [6, 5, 0, 1, 2, 3, 4, 5]⟩] false)))
    (.region [
      ⟨(some 30), (.bin .add (.s 18) (.c (.int .i64 1))), none, []⟩,
      ⟨(some 18), (.mv (.s 30)), none, [0]⟩] false)))))))
  (.seq (.region [
    ⟨(some 31), (.mv (.s 6)), none, []⟩,
    ⟨(some 4), (.mv (.s 31)), none, [0, 0]⟩,
    ⟨(some 5), (.mv (.c (.int .i64 0))), none, [1, 0, 1]⟩] false)
  .ret))))), false, (some [(Sh.sl (Sh.int .u8)), (Sh.sl (Sh.int .u8))]), (some (Sh.tu (Sh.pr (Sh.sl (Sh.int .u8)) (Sh.int .i64))))⟩

/-- euphroe/euphroeref01.Xor -/
def k45 : Fun := ⟨2, 35, [0, 1, 4, 5, 6, 7, 12, 19], [(.tmp 4), (.tmp 5)],
  (.seq (.region [
    ⟨(some 4), (.mv (.c .nils)), none, []⟩,
    ⟨(some 5), (.mv (.c (.int .i64 0))), none, [0]⟩] false)
  (.seq (.seq (.region [
    ⟨(some 8), (.mv (.s 0)), none, []⟩,
    ⟨(some 9), (.len false (.s 8)), none, [0]⟩,
    ⟨(some 10), (.mv (.s 1)), none, []⟩,
    ⟨(some 11), (.len false (.s 10)), none, [2]⟩,
    ⟨(some 12), (.bin .neq (.s 9) (.s 11)), none, [1, 3]⟩] false)
  (.cond (.s 12)
   (.seq (.region [
     ⟨(some 4), (.mv (.c .nils)), none, []⟩,
     ⟨(some 5), (.mv (.c (.int .i64 1))), none, [0, 0]⟩] false)
   .ret)
   .skip))
  (.seq (.region [
    ⟨(some 13), (.mv (.s 0)), none, []⟩,
    ⟨(some 14), (.len false (.s 13)), none, [0]⟩,
    ⟨(some 15), (.mks (.ints .u8 [0]) 1 1 (.s 14) (.s 14)), none, [1, 1]⟩,
    ⟨(some 6), (.mv (.s 15)), none, [2, 0, 1, 2]⟩] false)
  (.seq (.seq (.region [
    ⟨(some 7), (.mv (.c (.int .i64 0))), none, []⟩] false)
  (.block 0
   (.loop ⟨0, [], false, [0, 1, 6, 7], []⟩
    (.seq (.seq (.region [
      ⟨(some 16), (.mv (.s 7)), none, []⟩,
      ⟨(some 17), (.mv (.s 0)), none, []⟩,
      ⟨(some 18), (.len false (.s 17)), none, [1]⟩,
      ⟨(some 19), (.bin .lss (.s 16) (.s 18)), none, [0, 2]⟩] false)
    (.cond (.s 19)
     .skip
     (.pre ⟨0, [], false, [6], []⟩ (.exit 0))))
    (.seq (.block 1
     (.region [
       ⟨(some 22), (.mv (.s 6)), none, []⟩,
       ⟨(some 23), (.mv (.s 7)), none, []⟩,
       ⟨(some 24), (.mv (.s 0)), none, []⟩,
       ⟨(some 25), (.mv (.s 7)), none, []⟩,
       ⟨(some 26), (.iad 1 (.s 24) (.s 25)), none, [2, 3]⟩,
       ⟨(some 27), (.ldc (.s 26)), none, [4]⟩,
       ⟨(some 28), (.mv (.s 1)), none, []⟩,
       ⟨(some 29), (.mv (.s 7)), none, []⟩,
       ⟨(some 30), (.iad 1 (.s 28) (.s 29)), none, [6, 7]⟩,
       ⟨(some 31), (.ldc (.s 30)), none, [8]⟩,
       ⟨(some 32), (.bin .xor (.s 27) (.s 31)), none, [5, 9]⟩,
       ⟨(some 33), (.iad 1 (.s 22) (.s 23)), none, [0, 1, 0, 1, 2, 3, 4, 5, 6, 7, 8, 9, 10]⟩,
       ⟨none, (.stc 1 (.s 33) (.s 32)), none, [11, 10, 0, 1, 2, 3, 4, 5, 6, 7, 8, 9, 10]⟩] true))
    (.region [
      ⟨(some 20), (.mv (.s 7)), none, []⟩,
      ⟨(some 21), (.bin .add (.s 20) (.c (.int .i64 1))), none, [0]⟩,
      ⟨(some 7), (.mv (.s 21)), none, [1, 0, 1]⟩] false))))))
  (.seq (.region [
    ⟨(some 34), (.mv (.s 6)), none, []⟩,
    ⟨(some 4), (.mv (.s 34)), none, [0, 0]⟩,
    ⟨(some 5), (.mv (.c (.int .i64 0))), none, [1, 0, 1]⟩] false)
  .ret))))), false, (some [(Sh.sl (Sh.int .u8)), (Sh.sl (Sh.int .u8))]), (some (Sh.tu (Sh.pr (Sh.sl (Sh.int .u8)) (Sh.int .i64))))⟩

/-- euphroe/octs.Join -/
def k46 : Fun := ⟨1, 5, [0, 2], [(.tmp 2)],
  (.seq (.region [
    ⟨(some 2), (.mv (.c .nils)), none, []⟩] false)
  (.seq (.region [
    ⟨(some 3), (.mv (.s 0)), none, []⟩,
    ⟨(some 4), (.call (.c (.fn 1 [])) [(.s 3)]), none, [0]⟩,
    ⟨(some 2), (.mv (.s 4)), none, [1, 1, 0, 1]⟩] false)
  .ret)), false, (some [(Sh.sl (Sh.sl (Sh.int .u8)))]), none⟩

/-- euphroe/octs.Same -/
def k47 : Fun := ⟨2, 31, [0, 1, 4, 5, 6, 7, 12, 13, 14, 15, 16], [(.tmp 4)],
  (.seq (.region [
    ⟨(some 4), (.mv (.c (.bool false))), none, []⟩] false)
  (.seq (.seq (.region [
    ⟨(some 8), (.mv (.s 0)), none, []⟩,
    ⟨(some 9), (.len false (.s 8)), none, [0]⟩,
    ⟨(some 10), (.mv (.s 1)), none, []⟩,
    ⟨(some 11), (.len false (.s 10)), none, [2]⟩,
    ⟨(some 12), (.bin .neq (.s 9) (.s 11)), none, [1, 3]⟩] false)
  (.cond (.s 12)
   (.seq (.region [
     ⟨(some 4), (.mv (.c (.bool false))), none, []⟩] false)
   .ret)
   .skip))
  (.seq (.region [
    ⟨(some 5), (.mv (.c (.int .u8 0))), none, []⟩] false)
  (.seq (.seq (.region [
    ⟨(some 13), (.mv (.s 0)), none, []⟩,
    ⟨(some 14), (.len false (.s 13)), none, [0]⟩,
    ⟨(some 15), (.mv (.c (.int .i64 0))), none, []⟩] false)
  (.block 0
   (.loop ⟨0, [], false, [1, 5, 13, 14, 15], []⟩
    (.seq (.region [
      ⟨(some 16), (.bin .lss (.s 15) (.s 14)), none, []⟩] false)
    (.seq (.cond (.s 16)
     .skip
     (.pre ⟨0, [], false, [5], []⟩ (.exit 0)))
    (.seq (.block 1
     (.seq (.region [
       ⟨(some 17), (.mv (.s 15)), none, []⟩,
       ⟨(some 18), (.iad 1 (.s 13) (.s 15)), none, []⟩,
       ⟨(some 19), (.ldc (.s 18)), none, [1]⟩,
       ⟨(some 6), (.mv (.s 17)), none, [0, 0, 1, 2]⟩,
       ⟨(some 7), (.mv (.s 19)), none, [2, 3, 0, 1, 2, 3]⟩] false)
     (.region [
       ⟨(some 20), (.mv (.s 5)), none, []⟩,
       ⟨(some 21), (.mv (.s 7)), none, []⟩,
       ⟨(some 22), (.mv (.s 1)), none, []⟩,
       ⟨(some 23), (.mv (.s 6)), none, []⟩,
       ⟨(some 24), (.iad 1 (.s 22) (.s 23)), none, [2, 3]⟩,
       ⟨(some 25), (.ldc (.s 24)), none, [4]⟩,
       ⟨(some 26), (.bin .xor (.s 21) (.s 25)), none, [1, 5]⟩,
       ⟨(some 27), (.bin .or (.s 20) (.s 26)), none, [0, 6]⟩,
       ⟨(some 5), (.mv (.s 27)), none, [7, 0, 1, 2, 3, 4, 5, 6, 7]⟩] false)))
    (.region [
      ⟨(some 28), (.bin .add (.s 15) (.c (.int .i64 1))), none, []⟩,
      ⟨(some 15), (.mv (.s 28)), none, [0]⟩] false)))))))
  (.seq (.region [
    ⟨(some 29), (.mv (.s 5)), none, []⟩,
    ⟨(some 30), (.bin .eql (.s 29) (.c (.int .u8 0))), none, [0]⟩,
    ⟨(some 4), (.mv (.s 30)), none, [1, 0, 1]⟩] false)
  .ret))))), false, (some [(Sh.sl (Sh.int .u8)), (Sh.sl (Sh.int .u8))]), (some Sh.bool)⟩

/-- slices.Reverse[[]byte,byte] -/
def k48 : Fun := ⟨1, 28, [0, 2, 3, 9], [],
  (.seq (.region [
    ⟨(some 4), (.mv (.s 0)), none, []⟩,
    ⟨(some 5), (.len false (.s 4)), none, [0]⟩,
    ⟨(some 6), (.bin .sub (.s 5) (.c (.int .i64 1))), none, [1]⟩,
    ⟨(some 2), (.mv (.c (.int .i64 0))), none, []⟩,
    ⟨(some 3), (.mv (.s 6)), none, [2, 3, 0, 1, 2, 3]⟩] false)
  (.block 0
   (.loop ⟨0, [], false, [0, 2, 3], []⟩
    (.seq (.seq (.region [
      ⟨(some 7), (.mv (.s 2)), none, []⟩,
      ⟨(some 8), (.mv (.s 3)), none, []⟩,
      ⟨(some 9), (.bin .lss (.s 7) (.s 8)), none, [0, 1]⟩] false)
    (.cond (.s 9)
     .skip
     (.pre ⟨0, [], false, [], []⟩ (.exit 0))))
    (.seq (.block 1
     (.region [
       ⟨(some 14), (.mv (.s 0)), none, []⟩,
       ⟨(some 15), (.mv (.s 2)), none, []⟩,
       ⟨(some 16), (.mv (.s 0)), none, []⟩,
       ⟨(some 17), (.mv (.s 3)), none, []⟩,
       ⟨(some 18), (.mv (.s 0)), none, []⟩,
       ⟨(some 19), (.mv (.s 3)), none, []⟩,
       ⟨(some 20), (.iad 1 (.s 18) (.s 19)), none, [4, 5]⟩,
       ⟨(some 21), (.ldc (.s 20)), none, [6]⟩,
       ⟨(some 22), (.mv (.s 0)), none, []⟩,
       ⟨(some 23), (.mv (.s 2)), none, []⟩,
       ⟨(some 24), (.iad 1 (.s 22) (.s 23)), none, [8, 9]⟩,
       ⟨(some 25), (.ldc (.s 24)), none, [10]⟩,
       ⟨(some 26), (.iad 1 (.s 14) (.s 15)), none, [0, 1, 0, 1, 4, 5, 6, 7, 11]⟩,
       ⟨none, (.stc 1 (.s 26) (.s 21)), none, [12, 7, 0, 1, 4, 5, 6, 7, 11]⟩,
       ⟨(some 27), (.iad 1 (.s 16) (.s 17)), none, [2, 3, 0, 1, 2, 3, 4, 5, 6, 7, 8, 9, 10, 11, 12, 13]⟩,
       ⟨none, (.stc 1 (.s 27) (.s 25)), none, [14, 11, 13, 0, 1, 2, 3, 4, 5, 6, 7, 8, 9, 10, 11, 12, 13]⟩] true))
    (.region [
      ⟨(some 10), (.mv (.s 2)), none, []⟩,
      ⟨(some 11), (.bin .add (.s 10) (.c (.int .i64 1))), none, [0]⟩,
      ⟨(some 12), (.mv (.s 3)), none, []⟩,
      ⟨(some 13), (.bin .sub (.s 12) (.c (.int .i64 1))), none, [2]⟩,
      ⟨(some 2), (.mv (.s 11)), none, [1, 0, 1]⟩,
      ⟨(some 3), (.mv (.s 13)), none, [3, 4, 0, 1, 2, 3, 4]⟩] false)))))), true, none, none⟩

/-- euphroe/euphroeref01.turned -/
def k49 : Fun := ⟨1, 26, [0, 2, 3, 4, 11], [(.tmp 2)],
  (.seq (.region [
    ⟨(some 2), (.mv (.c .nils)), none, []⟩] false)
  (.seq (.region [
    ⟨(some 5), (.mv (.s 0)), none, []⟩,
    ⟨(some 6), (.len false (.s 5)), none, [0]⟩,
    ⟨(some 7), (.mks (.ints .u8 [0]) 1 1 (.s 6) (.s 6)), none, [1, 1]⟩,
    ⟨(some 3), (.mv (.s 7)), none, [2, 0, 1, 2]⟩] false)
  (.seq (.seq (.region [
    ⟨(some 4), (.mv (.c (.int .i64 0))), none, []⟩] false)
  (.block 0
   (.loop ⟨0, [], false, [0, 3, 4], []⟩
    (.seq (.seq (.region [
      ⟨(some 8), (.mv (.s 4)), none, []⟩,
      ⟨(some 9), (.mv (.s 0)), none, []⟩,
      ⟨(some 10), (.len false (.s 9)), none, [1]⟩,
      ⟨(some 11), (.bin .lss (.s 8) (.s 10)), none, [0, 2]⟩] false)
    (.cond (.s 11)
     .skip
     (.pre ⟨0, [], false, [3], []⟩ (.exit 0))))
    (.seq (.block 1
     (.region [
       ⟨(some 14), (.mv (.s 3)), none, []⟩,
       ⟨(some 15), (.mv (.s 0)), none, []⟩,
       ⟨(some 16), (.len false (.s 15)), none, [1]⟩,
       ⟨(some 17), (.bin .sub (.s 16) (.c (.int .i64 1))), none, [2]⟩,
       ⟨(some 18), (.mv (.s 4)), none, []⟩,
       ⟨(some 19), (.bin .sub (.s 17) (.s 18)), none, [3, 4]⟩,
       ⟨(some 20), (.mv (.s 0)), none, []⟩,
       ⟨(some 21), (.mv (.s 4)), none, []⟩,
       ⟨(some 22), (.iad 1 (.s 20) (.s 21)), none, [6, 7]⟩,
       ⟨(some 23), (.ldc (.s 22)), none, [8]⟩,
       ⟨(some 24), (.iad 1 (.s 14) (.s 19)), none, [0, 5, 0, 1, 2, 3, 4, 5, 6, 7, 8, 9]⟩,
       ⟨none, (.stc 1 (.s 24) (.s 23)), none, [10, 9, 0, 1, 2, 3, 4, 5, 6, 7, 8, 9]⟩] false))
    (.region [
      ⟨(some 12), (.mv (.s 4)), none, []⟩,
      ⟨(some 13), (.bin .add (.s 12) (.c (.int .i64 1))), none, [0]⟩,
      ⟨(some 4), (.mv (.s 13)), none, [1, 0, 1]⟩] false))))))
  (.seq (.region [
    ⟨(some 25), (.mv (.s 3)), none, []⟩,
    ⟨(some 2), (.mv (.s 25)), none, [0, 0]⟩] false)
  .ret)))), false, (some [(Sh.sl (Sh.int .u8))]), (some (Sh.sl (Sh.int .u8)))⟩

/-- euphroe/euphroeref01.Big -/
def k50 : Fun := ⟨2, 24, [0, 1, 4, 5, 6, 12], [(.tmp 4)],
  (.seq (.region [
    ⟨(some 4), (.mv (.c .nils)), none, []⟩] false)
  (.seq (.region [
    ⟨(some 7), (.mv (.s 1)), none, []⟩,
    ⟨(some 8), (.mks (.ints .u8 [0]) 1 1 (.s 7) (.s 7)), none, [0, 0]⟩,
    ⟨(some 5), (.mv (.s 8)), none, [1, 0, 1]⟩] false)
  (.seq (.seq (.region [
    ⟨(some 9), (.mv (.s 1)), none, []⟩,
    ⟨(some 10), (.bin .sub (.s 9) (.c (.int .i64 1))), none, [0]⟩,
    ⟨(some 6), (.mv (.s 10)), none, [1, 0, 1]⟩] false)
  (.block 0
   (.loop ⟨0, [], false, [0, 5, 6], []⟩
    (.seq (.seq (.region [
      ⟨(some 11), (.mv (.s 6)), none, []⟩,
      ⟨(some 12), (.bin .geq (.s 11) (.c (.int .i64 0))), none, [0]⟩] false)
    (.cond (.s 12)
     .skip
     (.pre ⟨0, [], false, [5], []⟩ (.exit 0))))
    (.seq (.block 1
     (.seq (.region [
       ⟨(some 15), (.mv (.s 5)), none, []⟩,
       ⟨(some 16), (.mv (.s 6)), none, []⟩,
       ⟨(some 17), (.mv (.s 0)), none, []⟩,
       ⟨(some 18), (.bin .rem (.s 17) (.c (.int .u64 256))), none, [2]⟩,
       ⟨(some 19), (.cvi .u8 (.s 18)), none, [3]⟩,
       ⟨(some 20), (.iad 1 (.s 15) (.s 16)), none, [0, 1, 0, 1, 2, 3, 4]⟩,
       ⟨none, (.stc 1 (.s 20) (.s 19)), none, [5, 4, 0, 1, 2, 3, 4]⟩] false)
     (.region [
       ⟨(some 21), (.mv (.s 0)), none, []⟩,
       ⟨(some 22), (.bin .quo (.s 21) (.c (.int .u64 256))), none, [0]⟩,
       ⟨(some 0), (.mv (.s 22)), none, [1, 0, 1]⟩] false)))
    (.region [
      ⟨(some 13), (.mv (.s 6)), none, []⟩,
      ⟨(some 14), (.bin .sub (.s 13) (.c (.int .i64 1))), none, [0]⟩,
      ⟨(some 6), (.mv (.s 14)), none, [1, 0, 1]⟩] false))))))
  (.seq (.region [
    ⟨(some 23), (.mv (.s 5)), none, []⟩,
    ⟨(some 4), (.mv (.s 23)), none, [0, 0]⟩] false)
  .ret)))), false, (some [(Sh.int .u64), (Sh.int .i64)]), (some (Sh.sl (Sh.int .u8)))⟩

/-- euphroe/euphroeref01.Num -/
def k51 : Fun := ⟨1, 20, [0, 2, 3, 4, 8], [(.tmp 2)],
  (.seq (.region [
    ⟨(some 2), (.mv (.c (.int .u64 0))), none, []⟩] false)
  (.seq (.region [
    ⟨(some 3), (.mv (.c (.int .u64 0))), none, []⟩] false)
  (.seq (.seq (.region [
    ⟨(some 4), (.mv (.c (.int .i64 0))), none, []⟩] false)
  (.block 0
   (.loop ⟨0, [], false, [0, 3, 4], []⟩
    (.seq (.seq (.region [
      ⟨(some 5), (.mv (.s 4)), none, []⟩,
      ⟨(some 6), (.mv (.s 0)), none, []⟩,
      ⟨(some 7), (.len false (.s 6)), none, [1]⟩,
      ⟨(some 8), (.bin .lss (.s 5) (.s 7)), none, [0, 2]⟩] false)
    (.cond (.s 8)
     .skip
     (.pre ⟨0, [], false, [3], []⟩ (.exit 0))))
    (.seq (.block 1
     (.region [
       ⟨(some 11), (.mv (.s 3)), none, []⟩,
       ⟨(some 12), (.bin .mul (.s 11) (.c (.int .u64 256))), none, [0]⟩,
       ⟨(some 13), (.mv (.s 0)), none, []⟩,
       ⟨(some 14), (.mv (.s 4)), none, []⟩,
       ⟨(some 15), (.iad 1 (.s 13) (.s 14)), none, [2, 3]⟩,
       ⟨(some 16), (.ldc (.s 15)), none, [4]⟩,
       ⟨(some 17), (.cvi .u64 (.s 16)), none, [5]⟩,
       ⟨(some 18), (.bin .add (.s 12) (.s 17)), none, [1, 6]⟩,
       ⟨(some 3), (.mv (.s 18)), none, [7, 0, 1, 2, 3, 4, 5, 6, 7]⟩] false))
    (.region [
      ⟨(some 9), (.mv (.s 4)), none, []⟩,
      ⟨(some 10), (.bin .add (.s 9) (.c (.int .i64 1))), none, [0]⟩,
      ⟨(some 4), (.mv (.s 10)), none, [1, 0, 1]⟩] false))))))
  (.seq (.region [
    ⟨(some 19), (.mv (.s 3)), none, []⟩,
    ⟨(some 2), (.mv (.s 19)), none, [0, 0]⟩] false)
  .ret)))), false, (some [(Sh.sl (Sh.int .u8))]), (some (Sh.int .u64))⟩

/-- math/bits.OnesCount8 -/
def k52 : Fun := ⟨1, 6, [0, 2], [(.tmp 2)],
  (.seq (.region [
    ⟨(some 2), (.mv (.c (.int .i64 0))), none, []⟩] false)
  (.seq (.region [
    ⟨(some 3), (.mv (.s 0)), none, []⟩,
    ⟨(some 4), (.ixs (.c (.str [0, 1, 1, 2, 1, 2, 2, 3, 1, 2, 2, 3, 2, 3, 3, 4, 1, 2, 2, 3, 2, 3, 3, 4, 2, 3, 3, 4, 3, 4, 4, 5, 1, 2, 2, 3, 2, 3, 3, 4, 2, 3, 3, 4, 3, 4, 4, 5, 2, 3, 3, 4, 3, 4, 4, 5, 3, 4, 4, 5, 4, 5, 5, 6, 1, 2, 2, 3, 2, 3, 3, 4, 2, 3, 3, 4, 3, 4, 4, 5, 2, 3, 3, 4, 3, 4, 4, 5, 3, 4, 4, 5, 4, 5, 5, 6, 2, 3, 3, 4, 3, 4, 4, 5, 3, 4, 4, 5, 4, 5, 5, 6, 3, 4, 4, 5, 4, 5, 5, 6, 4, 5, 5, 6, 5, 6, 6, 7, 1, 2, 2, 3, 2, 3, 3, 4, 2, 3, 3, 4, 3, 4, 4, 5, 2, 3, 3, 4, 3, 4, 4, 5, 3, 4, 4, 5, 4, 5, 5, 6, 2, 3, 3, 4, 3, 4, 4, 5, 3, 4, 4, 5, 4, 5, 5, 6, 3, 4, 4, 5, 4, 5, 5, 6, 4, 5, 5, 6, 5, 6, 6, 7, 2, 3, 3, 4, 3, 4, 4, 5, 3, 4, 4, 5, 4, 5, 5, 6, 3, 4, 4, 5, 4, 5, 5, 6, 4, 5, 5, 6, 5, 6, 6, 7, 3, 4, 4, 5, 4, 5, 5, 6, 4, 5, 5, 6, 5, 6, 6, 7, 4, 5, 5, 6, 5, 6, 6, 7, 5, 6, 6, 7, 6, 7, 7, 8])) (.s 3)), none, [0]⟩,
    ⟨(some 5), (.cvi .i64 (.s 4)), none, [1]⟩,
    ⟨(some 2), (.mv (.s 5)), none, [2, 0, 1, 2]⟩] false)
  .ret)), false, (some [(Sh.int .u8)]), (some (Sh.int .i64))⟩

/-- euphroe/bitp.isWidth -/
def k53 : Fun := ⟨1, 9, [0, 2], [(.tmp 2)],
  (.seq (.region [
    ⟨(some 2), (.mv (.c (.bool false))), none, []⟩] false)
  (.seq (.region [
    ⟨(some 3), (.mv (.s 0)), none, []⟩,
    ⟨(some 4), (.bin .geq (.s 3) (.c (.int .i64 1))), none, [0]⟩,
    ⟨(some 5), (.mv (.s 4)), none, [1]⟩,
    ⟨(some 6), (.mv (.s 0)), (some (5, true)), [2]⟩,
    ⟨(some 7), (.bin .leq (.s 6) (.c (.int .i64 64))), (some (5, true)), [3, 2]⟩,
    ⟨(some 8), (.pick (.s 5) (.s 7) (.c (.bool false))), none, [2, 4]⟩,
    ⟨(some 2), (.mv (.s 8)), none, [5, 2, 0, 1, 2, 3, 4, 5]⟩] false)
  .ret)), false, (some [(Sh.int .i64)]), (some Sh.bool)⟩

/-- euphroe/bitp.Permute$1 -/
def k54 : Fun := ⟨5, 23, [0, 1, 2, 3, 4], [],
  (.seq (.region [
    ⟨(some 6), (.ldc (.s 1)), none, []⟩,
    ⟨(some 7), (.mv (.s 6)), none, [0]⟩,
    ⟨(some 8), (.mv (.s 0)), (some (7, false)), [1]⟩,
    ⟨(some 9), (.bin .lss (.s 8) (.c (.int .i64 1))), (some (7, false)), [2, 1]⟩,
    ⟨(some 10), (.pick (.s 7) (.c (.bool true)) (.s 9)), none, [1, 3]⟩,
    ⟨(some 11), (.mv (.s 10)), none, [4, 1]⟩,
    ⟨(some 12), (.mv (.s 0)), (some (11, false)), [5]⟩,
    ⟨(some 13), (.ldc (.s 2)), (some (11, false)), [5]⟩,
    ⟨(some 14), (.bin .gtr (.s 12) (.s 13)), (some (11, false)), [6, 7, 5]⟩,
    ⟨(some 15), (.pick (.s 11) (.c (.bool true)) (.s 14)), none, [5, 8]⟩,
    ⟨none, (.stc 1 (.s 1) (.s 15)), none, [9, 5, 0, 1, 2, 3, 4, 5, 6, 7, 8, 9]⟩] false)
  (.region [
    ⟨(some 16), (.ldc (.s 3)), none, []⟩,
    ⟨(some 17), (.bin .shl (.s 16) (.c (.int .u64 1))), none, [0]⟩,
    ⟨(some 18), (.ldc (.s 4)), none, []⟩,
    ⟨(some 19), (.ldc (.s 2)), none, []⟩,
    ⟨(some 20), (.mv (.s 0)), none, []⟩,
    ⟨(some 21), (.call (.c (.fn 33 [])) [(.s 18), (.s 19), (.s 20)]), none, [2, 3, 4]⟩,
    ⟨(some 22), (.bin .or (.s 17) (.s 21)), none, [1, 5]⟩,
    ⟨none, (.stc 1 (.s 3) (.s 22)), none, [6, 5, 0, 1, 2, 3, 4, 5, 6]⟩] true)), false, none, none⟩

/-- euphroe/euphroeref03.wide -/
def k55 : Fun := ⟨1, 9, [0, 2], [(.tmp 2)],
  (.seq (.region [
    ⟨(some 2), (.mv (.c (.bool false))), none, []⟩] false)
  (.seq (.region [
    ⟨(some 3), (.mv (.s 0)), none, []⟩,
    ⟨(some 4), (.bin .geq (.s 3) (.c (.int .i64 1))), none, [0]⟩,
    ⟨(some 5), (.mv (.s 4)), none, [1]⟩,
    ⟨(some 6), (.mv (.s 0)), (some (5, true)), [2]⟩,
    ⟨(some 7), (.bin .leq (.s 6) (.c (.int .i64 64))), (some (5, true)), [3, 2]⟩,
    ⟨(some 8), (.pick (.s 5) (.s 7) (.c (.bool false))), none, [2, 4]⟩,
    ⟨(some 2), (.mv (.s 8)), none, [5, 2, 0, 1, 2, 3, 4, 5]⟩] false)
  .ret)), false, (some [(Sh.int .i64)]), (some Sh.bool)⟩

/-- euphroe/euphroeref03.Row -/
def k56 : Fun := ⟨2, 24, [0, 1, 4, 5, 6, 12], [(.tmp 4)],
  (.seq (.region [
    ⟨(some 4), (.mv (.c .nils)), none, []⟩] false)
  (.seq (.region [
    ⟨(some 7), (.mv (.s 1)), none, []⟩,
    ⟨(some 8), (.mks (.ints .u8 [0]) 1 1 (.s 7) (.s 7)), none, [0, 0]⟩,
    ⟨(some 5), (.mv (.s 8)), none, [1, 0, 1]⟩] false)
  (.seq (.seq (.region [
    ⟨(some 9), (.mv (.s 1)), none, []⟩,
    ⟨(some 10), (.bin .sub (.s 9) (.c (.int .i64 1))), none, [0]⟩,
    ⟨(some 6), (.mv (.s 10)), none, [1, 0, 1]⟩] false)
  (.block 0
   (.loop ⟨0, [], false, [0, 5, 6], []⟩
    (.seq (.seq (.region [
      ⟨(some 11), (.mv (.s 6)), none, []⟩,
      ⟨(some 12), (.bin .geq (.s 11) (.c (.int .i64 0))), none, [0]⟩] false)
    (.cond (.s 12)
     .skip
     (.pre ⟨0, [], false, [5], []⟩ (.exit 0))))
    (.seq (.block 1
     (.seq (.region [
       ⟨(some 15), (.mv (.s 5)), none, []⟩,
       ⟨(some 16), (.mv (.s 6)), none, []⟩,
       ⟨(some 17), (.mv (.s 0)), none, []⟩,
       ⟨(some 18), (.bin .rem (.s 17) (.c (.int .u64 2))), none, [2]⟩,
       ⟨(some 19), (.cvi .u8 (.s 18)), none, [3]⟩,
       ⟨(some 20), (.iad 1 (.s 15) (.s 16)), none, [0, 1, 0, 1, 2, 3, 4]⟩,
       ⟨none, (.stc 1 (.s 20) (.s 19)), none, [5, 4, 0, 1, 2, 3, 4]⟩] false)
     (.region [
       ⟨(some 21), (.mv (.s 0)), none, []⟩,
       ⟨(some 22), (.bin .quo (.s 21) (.c (.int .u64 2))), none, [0]⟩,
       ⟨(some 0), (.mv (.s 22)), none, [1, 0, 1]⟩] false)))
    (.region [
      ⟨(some 13), (.mv (.s 6)), none, []⟩,
      ⟨(some 14), (.bin .sub (.s 13) (.c (.int .i64 1))), none, [0]⟩,
      ⟨(some 6), (.mv (.s 14)), none, [1, 0, 1]⟩] false))))))
  (.seq (.region [
    ⟨(some 23), (.mv (.s 5)), none, []⟩,
    ⟨(some 4), (.mv (.s 23)), none, [0, 0]⟩] false)
  .ret)))), false, (some [(Sh.int .u64), (Sh.int .i64)]), (some (Sh.sl (Sh.int .u8)))⟩

/-- euphroe/euphroeref03.Word -/
def k57 : Fun := ⟨1, 20, [0, 2, 3, 4, 8], [(.tmp 2)],
  (.seq (.region [
    ⟨(some 2), (.mv (.c (.int .u64 0))), none, []⟩] false)
  (.seq (.region [
    ⟨(some 3), (.mv (.c (.int .u64 0))), none, []⟩] false)
  (.seq (.seq (.region [
    ⟨(some 4), (.mv (.c (.int .i64 0))), none, []⟩] false)
  (.block 0
   (.loop ⟨0, [], false, [0, 3, 4], []⟩
    (.seq (.seq (.region [
      ⟨(some 5), (.mv (.s 4)), none, []⟩,
      ⟨(some 6), (.mv (.s 0)), none, []⟩,
      ⟨(some 7), (.len false (.s 6)), none, [1]⟩,
      ⟨(some 8), (.bin .lss (.s 5) (.s 7)), none, [0, 2]⟩] false)
    (.cond (.s 8)
     .skip
     (.pre ⟨0, [], false, [3], []⟩ (.exit 0))))
    (.seq (.block 1
     (.region [
       ⟨(some 11), (.mv (.s 3)), none, []⟩,
       ⟨(some 12), (.bin .mul (.c (.int .u64 2)) (.s 11)), none, [0]⟩,
       ⟨(some 13), (.mv (.s 0)), none, []⟩,
       ⟨(some 14), (.mv (.s 4)), none, []⟩,
       ⟨(some 15), (.iad 1 (.s 13) (.s 14)), none, [2, 3]⟩,
       ⟨(some 16), (.ldc (.s 15)), none, [4]⟩,
       ⟨(some 17), (.cvi .u64 (.s 16)), none, [5]⟩,
       ⟨(some 18), (.bin .add (.s 12) (.s 17)), none, [1, 6]⟩,
       ⟨(some 3), (.mv (.s 18)), none, [7, 0, 1, 2, 3, 4, 5, 6, 7]⟩] false))
    (.region [
      ⟨(some 9), (.mv (.s 4)), none, []⟩,
      ⟨(some 10), (.bin .add (.s 9) (.c (.int .i64 1))), none, [0]⟩,
      ⟨(some 4), (.mv (.s 10)), none, [1, 0, 1]⟩] false))))))
  (.seq (.region [
    ⟨(some 19), (.mv (.s 3)), none, []⟩,
    ⟨(some 2), (.mv (.s 19)), none, [0, 0]⟩] false)
  .ret)))), false, (some [(Sh.sl (Sh.int .u8))]), (some (Sh.int .u64))⟩

/-- euphroe/bitp.mask -/
def k58 : Fun := ⟨1, 6, [0, 2], [(.tmp 2)],
  (.seq (.region [
    ⟨(some 2), (.mv (.c (.int .u64 0))), none, []⟩] false)
  (.seq (.region [
    ⟨(some 3), (.mv (.s 0)), none, []⟩,
    ⟨(some 4), (.bin .sub (.c (.int .i64 64)) (.s 3)), none, [0]⟩,
    ⟨(some 5), (.bin .shr (.c (.int .u64 18446744073709551615)) (.s 4)), none, [1]⟩,
    ⟨(some 2), (.mv (.s 5)), none, [2, 0, 1, 2]⟩] false)
  .ret)), false, (some [(Sh.int .i64)]), (some (Sh.int .u64))⟩

/-- euphroe/octs.digit -/
def k59 : Fun := ⟨1, 13, [0, 2, 8], [(.tmp 2)],
  (.seq (.region [
    ⟨(some 2), (.mv (.c (.int .i64 0))), none, []⟩] false)
  (.seq (.seq (.region [
    ⟨(some 3), (.mv (.s 0)), none, []⟩,
    ⟨(some 4), (.bin .geq (.s 3) (.c (.int .u8 97))), none, [0]⟩,
    ⟨(some 5), (.mv (.s 4)), none, [1]⟩,
    ⟨(some 6), (.mv (.s 0)), (some (5, true)), [2]⟩,
    ⟨(some 7), (.bin .leq (.s 6) (.c (.int .u8 102))), (some (5, true)), [3, 2]⟩,
    ⟨(some 8), (.pick (.s 5) (.s 7) (.c (.bool false))), none, [2, 4]⟩] false)
  (.cond (.s 8)
   (.region [
     ⟨(some 9), (.mv (.s 0)), none, []⟩,
     ⟨(some 10), (.bin .sub (.s 9) (.c (.int .u8 32))), none, [0]⟩,
     ⟨(some 0), (.mv (.s 10)), none, [1, 0, 1]⟩] false)
   .skip))
  (.seq (.region [
    ⟨(some 11), (.mv (.s 0)), none, []⟩,
    ⟨(some 12), (.call (.c (.fn 63 [])) [(.c (.str [48, 49, 50, 51, 52, 53, 54, 55, 56, 57, 65, 66, 67, 68, 69, 70])), (.s 11)]), none, [0]⟩,
    ⟨(some 2), (.mv (.s 12)), none, [1, 1, 0, 1]⟩] false)
  .ret))), false, (some [(Sh.int .u8)]), (some (Sh.int .i64))⟩

/-- euphroe/euphroeref01.Digit -/
def k60 : Fun := ⟨1, 32, [0, 2, 3, 12, 22], [(.tmp 2)],
  (.seq (.region [
    ⟨(some 2), (.mv (.c (.int .u8 0))), none, []⟩] false)
  (.seq (.block 0
   (.seq (.region [
     ⟨(some 4), (.mv (.s 0)), none, []⟩,
     ⟨(some 5), (.bin .geq (.s 4) (.c (.int .u8 48))), none, [0]⟩,
     ⟨(some 6), (.mv (.s 5)), none, [1]⟩,
     ⟨(some 7), (.mv (.s 0)), (some (6, true)), [2]⟩,
     ⟨(some 8), (.bin .leq (.s 7) (.c (.int .u8 57))), (some (6, true)), [3, 2]⟩,
     ⟨(some 9), (.pick (.s 6) (.s 8) (.c (.bool false))), none, [2, 4]⟩,
     ⟨(some 3), (.mv (.s 9)), none, [5, 2]⟩] false)
   (.cond (.s 3)
    (.seq (.region [
      ⟨(some 10), (.mv (.s 0)), none, []⟩,
      ⟨(some 11), (.bin .sub (.s 10) (.c (.int .u8 48))), none, [0]⟩,
      ⟨(some 2), (.mv (.s 11)), none, [1, 0, 1]⟩] false)
    .ret)
    (.seq (.region [
      ⟨(some 13), (.mv (.s 0)), none, []⟩,
      ⟨(some 14), (.bin .geq (.s 13) (.c (.int .u8 97))), none, [0]⟩,
      ⟨(some 15), (.mv (.s 14)), none, [1]⟩,
      ⟨(some 16), (.mv (.s 0)), (some (15, true)), [2]⟩,
      ⟨(some 17), (.bin .leq (.s 16) (.c (.int .u8 102))), (some (15, true)), [3, 2]⟩,
      ⟨(some 18), (.pick (.s 15) (.s 17) (.c (.bool false))), none, [2, 4]⟩,
      ⟨(some 12), (.mv (.s 18)), none, [5, 2]⟩] false)
    (.cond (.s 12)
     (.seq (.region [
       ⟨(some 19), (.mv (.s 0)), none, []⟩,
       ⟨(some 20), (.bin .sub (.s 19) (.c (.int .u8 97))), none, [0]⟩,
       ⟨(some 21), (.bin .add (.s 20) (.c (.int .u8 10))), none, [1]⟩,
       ⟨(some 2), (.mv (.s 21)), none, [2, 0, 1, 2]⟩] false)
     .ret)
     (.seq (.region [
       ⟨(some 23), (.mv (.s 0)), none, []⟩,
       ⟨(some 24), (.bin .geq (.s 23) (.c (.int .u8 65))), none, [0]⟩,
       ⟨(some 25), (.mv (.s 24)), none, [1]⟩,
       ⟨(some 26), (.mv (.s 0)), (some (25, true)), [2]⟩,
       ⟨(some 27), (.bin .leq (.s 26) (.c (.int .u8 70))), (some (25, true)), [3, 2]⟩,
       ⟨(some 28), (.pick (.s 25) (.s 27) (.c (.bool false))), none, [2, 4]⟩,
       ⟨(some 22), (.mv (.s 28)), none, [5, 2]⟩] false)
     (.cond (.s 22)
      (.seq (.region [
        ⟨(some 29), (.mv (.s 0)), none, []⟩,
        ⟨(some 30), (.bin .sub (.s 29) (.c (.int .u8 65))), none, [0]⟩,
        ⟨(some 31), (.bin .add (.s 30) (.c (.int .u8 10))), none, [1]⟩,
        ⟨(some 2), (.mv (.s 31)), none, [2, 0, 1, 2]⟩] false)
      .ret)
      .skip)))))))
  (.seq (.region [
    ⟨(some 2), (.mv (.c (.int .u8 16))), none, []⟩] false)
  .ret))), false, (some [(Sh.int .u8)]), (some (Sh.int .u8))⟩

/-- slices.Clone[[]byte,byte] -/
def k61 : Fun := ⟨1, 8, [0, 2, 4], [(.tmp 2)],
  (.seq (.region [
    ⟨(some 2), (.mv (.c .nils)), none, []⟩] false)
  (.seq (.seq (.region [
    ⟨(some 3), (.mv (.s 0)), none, []⟩,
    ⟨(some 4), (.eqn .s false (.s 3) (.c .nils)), none, [0]⟩] false)
  (.cond (.s 4)
   (.seq (.region [
     ⟨(some 2), (.mv (.c .nils)), none, []⟩] false)
   .ret)
   .skip))
  (.seq (.region [
    ⟨(some 5), (.bsl 0 1 (.imm []) []), none, []⟩,
    ⟨(some 6), (.mv (.s 0)), none, []⟩,
    ⟨(some 7), (.app 1 1 (.s 5) (.s 6)), none, [0, 1]⟩,
    ⟨(some 2), (.mv (.s 7)), none, [2, 2, 0, 1, 2]⟩] false)
  .ret))), false, (some [(Sh.sl (Sh.int .u8))]), none⟩

/-- strings.IndexByte -/
def k63 : Fun := ⟨2, 8, [0, 1, 4], [(.tmp 4)],
  (.seq (.region [
    ⟨(some 4), (.mv (.c (.int .i64 0))), none, []⟩] false)
  (.seq (.region [
    ⟨(some 5), (.mv (.s 0)), none, []⟩,
    ⟨(some 6), (.mv (.s 1)), none, []⟩,
    ⟨(some 7), (.call (.c (.fn 65 [])) [(.s 5), (.s 6)]), none, [0, 1]⟩,
    ⟨(some 4), (.mv (.s 7)), none, [2, 2, 0, 1, 2]⟩] false)
  .ret)), false, (some [Sh.str, (Sh.int .u8)]), (some (Sh.int .i64))⟩

/-- internal/stringslite.IndexByte -/
def k65 : Fun := ⟨2, 8, [0, 1, 4], [(.tmp 4)],
  (.seq (.region [
    ⟨(some 4), (.mv (.c (.int .i64 0))), none, []⟩] false)
  (.seq (.region [
    ⟨(some 5), (.mv (.s 0)), none, []⟩,
    ⟨(some 6), (.mv (.s 1)), none, []⟩,
    ⟨(some 7), (.call (.c (.fn 66 [])) [(.s 5), (.s 6)]), none, [0, 1]⟩,
    ⟨(some 4), (.mv (.s 7)), none, [2, 2, 0, 1, 2]⟩] false)
  .ret)), false, (some [Sh.str, (Sh.int .u8)]), (some (Sh.int .i64))⟩

def FT : Nat → Option Fun
  | 10 => some k10
  | 11 => some k11
  | 12 => some k12
  | 13 => some k13
  | 14 => some k14
  | 15 => some k15
  | 16 => some k16
  | 17 => some k17
  | 18 => some k18
  | 19 => some k19
  | 20 => some k20
  | 21 => some k21
  | 22 => some k22
  | 23 => some k23
  | 24 => some k24
  | 25 => some k25
  | 26 => some k26
  | 27 => some k27
  | 28 => some k28
  | 29 => some k29
  | 30 => some k30
  | 31 => some k31
  | 32 => some k32
  | 33 => some k33
  | 34 => some k34
  | 35 => some k35
  | 36 => some k36
  | 37 => some k37
  | 38 => some k38
  | 39 => some k39
  | 40 => some k40
  | 41 => some k41
  | 42 => some k42
  | 43 => some k43
  | 44 => some k44
  | 45 => some k45
  | 46 => some k46
  | 47 => some k47
  | 48 => some k48
  | 49 => some k49
  | 50 => some k50
  | 51 => some k51
  | 52 => some k52
  | 53 => some k53
  | 54 => some k54
  | 55 => some k55
  | 56 => some k56
  | 57 => some k57
  | 58 => some k58
  | 59 => some k59
  | 60 => some k60
  | 61 => some k61
  | 63 => some k63
  | 65 => some k65
  | _ => none
end Go.Proofs.YtgjbkgajkcgdfaaE
