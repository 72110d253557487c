/- The evaluator's functions. -/
import Derived.Test.YtjkdflcccoeggaaEvXT
namespace Go.Proofs.YtjkdflcccoeggaaE
open Go
set_option linter.unusedVariables false
set_option linter.unusedSimpArgs false

/-- slices.Concat[[]byte,byte] -/
def k1 : Fun := ⟨1, 36, [0, 2, 3, 5, 6, 8, 9, 10, 11, 12, 20, 25, 26, 27, 28], [(.tmp 2)],
  (.seq (.region [
    ⟨(some 2), (.mv (.c .nils)), none, []⟩] false)
  (.seq (.region [
    ⟨(some 3), (.mv (.c (.int .i64 0))), none, []⟩] false)
  (.seq (.seq (.region [
    ⟨(some 9), (.mv (.s 0)), none, []⟩,
    ⟨(some 10), (.len false (.s 9)), none, [0]⟩,
    ⟨(some 11), (.mv (.c (.int .i64 0))), none, []⟩] false)
  (.block 0
   (.loop ⟨0, [], false, [0, 3, 9, 10, 11], []⟩
    (.seq (.region [
      ⟨(some 12), (.bin .lss (.s 11) (.s 10)), none, []⟩] false)
    (.seq (.cond (.s 12)
     .skip
     (.pre ⟨0, [], false, [0, 3], []⟩ (.exit 0)))
    (.seq (.block 1
     (.seq (.region [
       ⟨(some 13), (.iad 1 (.s 9) (.s 11)), none, []⟩,
       ⟨(some 14), (.ldc (.s 13)), none, [0]⟩,
       ⟨(some 5), (.mv (.s 14)), none, [1, 0, 1]⟩] false)
     (.seq (.region [
       ⟨(some 15), (.mv (.s 3)), none, []⟩,
       ⟨(some 16), (.mv (.s 5)), none, []⟩,
       ⟨(some 17), (.len false (.s 16)), none, [1]⟩,
       ⟨(some 18), (.bin .add (.s 15) (.s 17)), none, [0, 2]⟩,
       ⟨(some 3), (.mv (.s 18)), none, [3, 0, 1, 2, 3]⟩] false)
     (.seq (.region [
       ⟨(some 19), (.mv (.s 3)), none, []⟩,
       ⟨(some 20), (.bin .lss (.s 19) (.c (.int .i64 0))), none, [0]⟩] false)
     (.cond (.s 20)
      (.region [
        ⟨(some 21), .bad, none, []⟩,
        ⟨none, .bad, none, [0]⟩] false)
      .skip)))))
    (.region [
      ⟨(some 22), (.bin .add (.s 11) (.c (.int .i64 1))), none, []⟩,
      ⟨(some 11), (.mv (.s 22)), none, [0]⟩] false)))))))
  (.seq (.region [
    ⟨(some 23), (.mv (.s 3)), none, []⟩,
    ⟨(some 24), (.call (.c (.fn 64 [])) [(.c .nils), (.s 23)]), none, [0]⟩,
    ⟨(some 6), (.mv (.s 24)), none, [1, 1, 0, 1]⟩] false)
  (.seq (.seq (.region [
    ⟨(some 25), (.mv (.s 0)), none, []⟩,
    ⟨(some 26), (.len false (.s 25)), none, [0]⟩,
    ⟨(some 27), (.mv (.c (.int .i64 0))), none, []⟩] false)
  (.block 2
   (.loop ⟨1, [], false, [6, 25, 26, 27], []⟩
    (.seq (.region [
      ⟨(some 28), (.bin .lss (.s 27) (.s 26)), none, []⟩] false)
    (.seq (.cond (.s 28)
     .skip
     (.pre ⟨0, [], false, [6], []⟩ (.exit 2)))
    (.seq (.block 3
     (.seq (.region [
       ⟨(some 29), (.iad 1 (.s 25) (.s 27)), none, []⟩,
       ⟨(some 30), (.ldc (.s 29)), none, [0]⟩,
       ⟨(some 8), (.mv (.s 30)), none, [1, 0, 1]⟩] false)
     (.region [
       ⟨(some 31), (.mv (.s 6)), none, []⟩,
       ⟨(some 32), (.mv (.s 8)), none, []⟩,
       ⟨(some 33), (.app 1 1 (.s 31) (.s 32)), none, [0, 1]⟩,
       ⟨(some 6), (.mv (.s 33)), none, [2, 2, 0, 1, 2]⟩] false)))
    (.region [
      ⟨(some 34), (.bin .add (.s 27) (.c (.int .i64 1))), none, []⟩,
      ⟨(some 27), (.mv (.s 34)), none, [0]⟩] false)))))))
  (.seq (.region [
    ⟨(some 35), (.mv (.s 6)), none, []⟩,
    ⟨(some 2), (.mv (.s 35)), none, [0, 0]⟩] false)
  .ret)))))), false, (some [(Sh.sl (Sh.sl (Sh.int .u8)))]), none, false⟩

/-- euphroe/euphroelaw01.OctsHex -/
def k15 : Fun := ⟨2, 46, [0, 1, 4, 5, 6, 7, 8, 16], [(.tmp 4)],
  (.seq (.region [
    ⟨(some 4), (.mv (.c (.bool false))), none, []⟩] false)
  (.seq (.seq (.region [
    ⟨(some 9), (.mv (.s 0)), none, []⟩,
    ⟨(some 10), (.len false (.s 9)), none, [0]⟩,
    ⟨(some 11), (.bin .gtr (.s 10) (.c (.int .i64 300))), none, [1]⟩,
    ⟨(some 12), (.mv (.s 11)), none, [2]⟩,
    ⟨(some 13), (.mv (.s 1)), (some (12, false)), [3]⟩,
    ⟨(some 14), (.len true (.s 13)), (some (12, false)), [4, 3]⟩,
    ⟨(some 15), (.bin .gtr (.s 14) (.c (.int .i64 300))), (some (12, false)), [5, 3]⟩,
    ⟨(some 16), (.pick (.s 12) (.c (.bool true)) (.s 15)), none, [3, 6]⟩] false)
  (.cond (.s 16)
   (.seq (.region [
     ⟨(some 17), (.call (.c (.fn 18 [])) []), none, []⟩,
     ⟨(some 4), (.mv (.s 17)), none, [0, 0, 0]⟩] false)
   .ret)
   .skip))
  (.seq (.region [
    ⟨(some 19), (.mv (.s 1)), none, []⟩,
    ⟨(some 20), (.call (.c (.fn 40 [])) [(.s 19)]), none, [0]⟩,
    ⟨(some 18), (.mv (.s 20)), none, [1]⟩,
    ⟨(some 21), (.ext (.s 18) 0), none, [2]⟩,
    ⟨(some 22), (.ext (.s 18) 1), none, [2]⟩,
    ⟨(some 5), (.mv (.s 21)), none, [3, 1, 0, 1, 2, 3]⟩,
    ⟨(some 6), (.mv (.s 22)), none, [4, 5, 0, 1, 2, 3, 4, 5]⟩] false)
  (.seq (.region [
    ⟨(some 24), (.mv (.s 1)), none, []⟩,
    ⟨(some 25), (.call (.c (.fn 41 [])) [(.s 24)]), none, [0]⟩,
    ⟨(some 23), (.mv (.s 25)), none, [1]⟩,
    ⟨(some 26), (.ext (.s 23) 0), none, [2]⟩,
    ⟨(some 27), (.ext (.s 23) 1), none, [2]⟩,
    ⟨(some 7), (.mv (.s 26)), none, [3, 1, 0, 1, 2, 3]⟩,
    ⟨(some 8), (.mv (.s 27)), none, [4, 5, 0, 1, 2, 3, 4, 5]⟩] false)
  (.seq (.region [
    ⟨(some 28), (.mv (.s 0)), none, []⟩,
    ⟨(some 29), (.call (.c (.fn 42 [])) [(.s 28)]), none, [0]⟩,
    ⟨(some 30), (.mv (.s 0)), none, []⟩,
    ⟨(some 31), (.call (.c (.fn 43 [])) [(.s 30)]), none, [2, 1]⟩,
    ⟨(some 32), (.bin .eql (.s 29) (.s 31)), none, [1, 3]⟩,
    ⟨(some 33), (.mv (.s 32)), none, [4, 3]⟩,
    ⟨(some 34), (.mv (.s 5)), (some (33, true)), [5]⟩,
    ⟨(some 35), (.mv (.s 7)), (some (33, true)), [5]⟩,
    ⟨(some 36), (.call (.c (.fn 23 [])) [(.s 34), (.s 35)]), (some (33, true)), [6, 7, 5, 5]⟩,
    ⟨(some 37), (.pick (.s 33) (.s 36) (.c (.bool false))), none, [5, 8]⟩,
    ⟨(some 38), (.mv (.s 37)), none, [9, 8]⟩,
    ⟨(some 39), (.mv (.s 6)), (some (38, true)), [10]⟩,
    ⟨(some 40), (.mv (.s 8)), (some (38, true)), [10]⟩,
    ⟨(some 41), (.bin .eql (.s 39) (.s 40)), (some (38, true)), [11, 12, 10]⟩,
    ⟨(some 42), (.pick (.s 38) (.s 41) (.c (.bool false))), none, [10, 13]⟩,
    ⟨(some 43), (.mv (.s 42)), none, [14, 10]⟩,
    ⟨(some 44), (.call (.c (.fn 18 [])) []), (some (43, true)), [15, 15]⟩,
    ⟨(some 45), (.pick (.s 43) (.s 44) (.c (.bool false))), none, [15, 16]⟩,
    ⟨(some 4), (.mv (.s 45)), none, [17, 16, 0, 1, 2, 3, 4, 5, 6, 7, 8, 9, 10, 11, 12, 13, 14, 15, 16, 17]⟩] false)
  .ret))))), false, (some [(Sh.sl (Sh.int .u8)), Sh.str]), (some Sh.bool), false⟩

/-- euphroe/euphroelaw01.OctsTurns -/
def k16 : Fun := ⟨2, 81, [0, 1, 4, 5, 6, 7, 8, 9, 17], [(.tmp 4)],
  (.seq (.region [
    ⟨(some 4), (.mv (.c (.bool false))), none, []⟩] false)
  (.seq (.seq (.region [
    ⟨(some 10), (.mv (.s 0)), none, []⟩,
    ⟨(some 11), (.len false (.s 10)), none, [0]⟩,
    ⟨(some 12), (.bin .gtr (.s 11) (.c (.int .i64 300))), none, [1]⟩,
    ⟨(some 13), (.mv (.s 12)), none, [2]⟩,
    ⟨(some 14), (.mv (.s 1)), (some (13, false)), [3]⟩,
    ⟨(some 15), (.len false (.s 14)), (some (13, false)), [4, 3]⟩,
    ⟨(some 16), (.bin .gtr (.s 15) (.c (.int .i64 300))), (some (13, false)), [5, 3]⟩,
    ⟨(some 17), (.pick (.s 13) (.c (.bool true)) (.s 16)), none, [3, 6]⟩] false)
  (.cond (.s 17)
   (.seq (.region [
     ⟨(some 18), (.call (.c (.fn 18 [])) []), none, []⟩,
     ⟨(some 4), (.mv (.s 18)), none, [0, 0, 0]⟩] false)
   .ret)
   .skip))
  (.seq (.region [
    ⟨(some 20), (.mv (.s 0)), none, []⟩,
    ⟨(some 21), (.mv (.s 1)), none, []⟩,
    ⟨(some 22), (.call (.c (.fn 44 [])) [(.s 20), (.s 21)]), none, [0, 1]⟩,
    ⟨(some 19), (.mv (.s 22)), none, [2]⟩,
    ⟨(some 23), (.ext (.s 19) 0), none, [3]⟩,
    ⟨(some 24), (.ext (.s 19) 1), none, [3]⟩,
    ⟨(some 5), (.mv (.s 23)), none, [4, 2, 0, 1, 2, 3, 4]⟩,
    ⟨(some 6), (.mv (.s 24)), none, [5, 6, 0, 1, 2, 3, 4, 5, 6]⟩] false)
  (.seq (.region [
    ⟨(some 26), (.mv (.s 0)), none, []⟩,
    ⟨(some 27), (.mv (.s 1)), none, []⟩,
    ⟨(some 28), (.call (.c (.fn 45 [])) [(.s 26), (.s 27)]), none, [0, 1]⟩,
    ⟨(some 25), (.mv (.s 28)), none, [2]⟩,
    ⟨(some 29), (.ext (.s 25) 0), none, [3]⟩,
    ⟨(some 30), (.ext (.s 25) 1), none, [3]⟩,
    ⟨(some 7), (.mv (.s 29)), none, [4, 2, 0, 1, 2, 3, 4]⟩,
    ⟨(some 8), (.mv (.s 30)), none, [5, 6, 0, 1, 2, 3, 4, 5, 6]⟩] false)
  (.seq (.region [
    ⟨(some 31), (.mv (.s 0)), none, []⟩,
    ⟨(some 32), (.mv (.s 1)), none, []⟩,
    ⟨(some 33), (.bsl 3 1 (.vals [.nils, .nils, .nils]) [(0, 1, (.s 31)), (1, 1, (.c .nils)), (2, 1, (.s 32))]), none, [0, 1]⟩,
    ⟨(some 34), (.call (.c (.fn 46 [])) [(.s 33)]), none, [2]⟩,
    ⟨(some 9), (.mv (.s 34)), none, [3, 3, 0, 1, 2, 3]⟩] false)
  (.seq (.region [
    ⟨(some 35), (.mv (.s 5)), none, []⟩,
    ⟨(some 36), (.mv (.s 7)), none, []⟩,
    ⟨(some 37), (.call (.c (.fn 23 [])) [(.s 35), (.s 36)]), none, [0, 1]⟩,
    ⟨(some 38), (.mv (.s 37)), none, [2, 2]⟩,
    ⟨(some 39), (.mv (.s 6)), (some (38, true)), [3]⟩,
    ⟨(some 40), (.mv (.s 8)), (some (38, true)), [3]⟩,
    ⟨(some 41), (.bin .eql (.s 39) (.s 40)), (some (38, true)), [4, 5, 3]⟩,
    ⟨(some 42), (.pick (.s 38) (.s 41) (.c (.bool false))), none, [3, 6]⟩,
    ⟨(some 43), (.mv (.s 42)), none, [7, 3]⟩,
    ⟨(some 44), (.mv (.s 0)), (some (43, true)), [8]⟩,
    ⟨(some 45), (.mv (.s 1)), (some (43, true)), [8]⟩,
    ⟨(some 46), (.call (.c (.fn 47 [])) [(.s 44), (.s 45)]), (some (43, true)), [9, 10, 8, 8]⟩,
    ⟨(some 47), (.mv (.s 0)), (some (43, true)), [8]⟩,
    ⟨(some 48), (.mv (.s 1)), (some (43, true)), [8]⟩,
    ⟨(some 49), (.call (.c (.fn 23 [])) [(.s 47), (.s 48)]), (some (43, true)), [12, 13, 11, 8]⟩,
    ⟨(some 50), (.eqn .b false (.s 46) (.s 49)), (some (43, true)), [11, 14, 8]⟩,
    ⟨(some 51), (.pick (.s 43) (.s 50) (.c (.bool false))), none, [8, 15]⟩,
    ⟨(some 52), (.mv (.s 51)), none, [16, 14]⟩,
    ⟨(some 53), (.mv (.s 9)), (some (52, true)), [17]⟩,
    ⟨(some 54), (.len false (.s 53)), (some (52, true)), [18, 17]⟩,
    ⟨(some 55), (.mv (.s 0)), (some (52, true)), [17]⟩,
    ⟨(some 56), (.len false (.s 55)), (some (52, true)), [20, 17]⟩,
    ⟨(some 57), (.mv (.s 1)), (some (52, true)), [17]⟩,
    ⟨(some 58), (.len false (.s 57)), (some (52, true)), [22, 17]⟩,
    ⟨(some 59), (.bin .add (.s 56) (.s 58)), (some (52, true)), [21, 23, 17]⟩,
    ⟨(some 60), (.bin .eql (.s 54) (.s 59)), (some (52, true)), [19, 24, 17]⟩,
    ⟨(some 61), (.pick (.s 52) (.s 60) (.c (.bool false))), none, [17, 25]⟩,
    ⟨(some 62), (.mv (.s 61)), none, [26, 17]⟩,
    ⟨(some 63), (.mv (.s 9)), (some (62, true)), [27]⟩,
    ⟨(some 64), (.mv (.s 0)), (some (62, true)), [27]⟩,
    ⟨(some 65), (.len false (.s 64)), (some (62, true)), [29, 27]⟩,
    ⟨(some 66), (.sls 1 (.s 63) none (some (.s 65)) none), (some (62, true)), [28, 30, 27]⟩,
    ⟨(some 67), (.mv (.s 0)), (some (62, true)), [27]⟩,
    ⟨(some 68), (.call (.c (.fn 23 [])) [(.s 66), (.s 67)]), (some (62, true)), [31, 32, 27, 27]⟩,
    ⟨(some 69), (.pick (.s 62) (.s 68) (.c (.bool false))), none, [27, 33]⟩,
    ⟨(some 70), (.mv (.s 69)), none, [34, 33]⟩,
    ⟨(some 71), (.mv (.s 9)), (some (70, true)), [35]⟩,
    ⟨(some 72), (.mv (.s 0)), (some (70, true)), [35]⟩,
    ⟨(some 73), (.len false (.s 72)), (some (70, true)), [37, 35]⟩,
    ⟨(some 74), (.sls 1 (.s 71) (some (.s 73)) none none), (some (70, true)), [36, 38, 35]⟩,
    ⟨(some 75), (.mv (.s 1)), (some (70, true)), [35]⟩,
    ⟨(some 76), (.call (.c (.fn 23 [])) [(.s 74), (.s 75)]), (some (70, true)), [39, 40, 35, 35]⟩,
    ⟨(some 77), (.pick (.s 70) (.s 76) (.c (.bool false))), none, [35, 41]⟩,
    ⟨(some 78), (.mv (.s 77)), none, [42, 41]⟩,
    ⟨(some 79), (.call (.c (.fn 18 [])) []), (some (78, true)), [43, 43]⟩,
    ⟨(some 80), (.pick (.s 78) (.s 79) (.c (.bool false))), none, [43, 44]⟩,
    ⟨(some 4), (.mv (.s 80)), none, [45, 44, 0, 1, 2, 3, 4, 5, 6, 7, 8, 9, 10, 11, 12, 13, 14, 15, 16, 17, 18, 19, 20, 21, 22, 23, 24, 25, 26, 27, 28, 29, 30, 31, 32, 33, 34, 35, 36, 37, 38, 39, 40, 41, 42, 43, 44, 45]⟩] false)
  .ret)))))), false, (some [(Sh.sl (Sh.int .u8)), (Sh.sl (Sh.int .u8))]), (some Sh.bool), false⟩

/-- euphroe/euphroelaw01.OctsBack -/
def k17 : Fun := ⟨3, 118, [0, 1, 2, 5, 6, 7, 8, 9, 10, 11, 12, 13, 14, 15, 16, 17, 18, 30, 76], [(.tmp 6)],
  (.seq (.region [
    ⟨(some 5), (.box (.s 2)), none, []⟩,
    ⟨(some 6), (.mv (.c (.bool false))), none, []⟩] false)
  (.seq (.region [
    ⟨(some 19), (.iaa 2 1 (.s 5) (.c (.int .i64 0))), none, []⟩,
    ⟨(some 20), (.ldc (.s 19)), none, [0]⟩,
    ⟨(some 21), (.iaa 2 1 (.s 5) (.c (.int .i64 1))), none, []⟩,
    ⟨(some 22), (.ldc (.s 21)), none, [2]⟩,
    ⟨(some 7), (.mv (.s 20)), none, [1, 0, 1]⟩,
    ⟨(some 8), (.mv (.s 22)), none, [3, 4, 0, 1, 2, 3, 4]⟩] true)
  (.seq (.seq (.region [
    ⟨(some 23), (.mv (.s 7)), none, []⟩,
    ⟨(some 24), (.len false (.s 23)), none, [0]⟩,
    ⟨(some 25), (.bin .gtr (.s 24) (.c (.int .i64 300))), none, [1]⟩,
    ⟨(some 26), (.mv (.s 25)), none, [2]⟩,
    ⟨(some 27), (.mv (.s 8)), (some (26, false)), [3]⟩,
    ⟨(some 28), (.len false (.s 27)), (some (26, false)), [4, 3]⟩,
    ⟨(some 29), (.bin .gtr (.s 28) (.c (.int .i64 300))), (some (26, false)), [5, 3]⟩,
    ⟨(some 30), (.pick (.s 26) (.c (.bool true)) (.s 29)), none, [3, 6]⟩] false)
  (.cond (.s 30)
   (.seq (.region [
     ⟨(some 31), (.call (.c (.fn 18 [])) []), none, []⟩,
     ⟨(some 6), (.mv (.s 31)), none, [0, 0, 0]⟩] false)
   .ret)
   .skip))
  (.seq (.region [
    ⟨(some 33), (.mv (.s 0)), none, []⟩,
    ⟨(some 34), (.mv (.s 1)), none, []⟩,
    ⟨(some 35), (.call (.c (.fn 19 [])) [(.s 33), (.s 34), (.c (.bool true))]), none, [0, 1]⟩,
    ⟨(some 32), (.mv (.s 35)), none, [2]⟩,
    ⟨(some 36), (.ext (.s 32) 0), none, [3]⟩,
    ⟨(some 37), (.ext (.s 32) 1), none, [3]⟩,
    ⟨(some 9), (.mv (.s 36)), none, [4, 2, 0, 1, 2, 3, 4]⟩,
    ⟨(some 10), (.mv (.s 37)), none, [5, 6, 0, 1, 2, 3, 4, 5, 6]⟩] false)
  (.seq (.region [
    ⟨(some 39), (.mv (.s 9)), none, []⟩,
    ⟨(some 40), (.call (.c (.fn 21 [])) [(.s 39), (.c (.bool true))]), none, [0]⟩,
    ⟨(some 38), (.mv (.s 40)), none, [1]⟩,
    ⟨(some 41), (.ext (.s 38) 0), none, [2]⟩,
    ⟨(some 42), (.ext (.s 38) 1), none, [2]⟩,
    ⟨(some 11), (.mv (.s 41)), none, [3, 1, 0, 1, 2, 3]⟩,
    ⟨(some 12), (.mv (.s 42)), none, [4, 5, 0, 1, 2, 3, 4, 5]⟩] false)
  (.seq (.seq (.region [
    ⟨(some 43), (.mv (.s 10)), none, []⟩,
    ⟨(some 44), (.bin .eql (.s 43) (.c (.int .i64 0))), none, [0]⟩,
    ⟨(some 45), (.mv (.s 44)), none, [1]⟩,
    ⟨(some 46), (.mv (.s 12)), (some (45, true)), [2]⟩,
    ⟨(some 47), (.bin .neq (.s 46) (.c (.int .i64 0))), (some (45, true)), [3, 2]⟩,
    ⟨(some 48), (.mv (.s 47)), (some (45, true)), [4, 2, 2]⟩,
    ⟨(some 49), (.mv (.s 1)), (some (48, false)), [5]⟩,
    ⟨(some 50), (.bin .eql (.s 49) (.c (.int .i64 8))), (some (48, false)), [6, 5]⟩,
    ⟨(some 51), (.mv (.s 50)), (some (48, false)), [7, 5, 5]⟩,
    ⟨(some 52), (.mv (.s 11)), (some (51, true)), [8]⟩,
    ⟨(some 53), (.mv (.s 0)), (some (51, true)), [8]⟩,
    ⟨(some 54), (.bin .neq (.s 52) (.s 53)), (some (51, true)), [9, 10, 8]⟩,
    ⟨(some 55), (.pick (.s 51) (.s 54) (.c (.bool false))), (some (48, false)), [8, 11, 5]⟩,
    ⟨(some 56), (.pick (.s 48) (.c (.bool true)) (.s 55)), (some (45, true)), [5, 12, 2]⟩,
    ⟨(some 57), (.mv (.s 56)), (some (45, true)), [13, 8, 2]⟩,
    ⟨(some 58), (.mv (.s 1)), (some (57, false)), [14]⟩,
    ⟨(some 59), (.bin .lss (.s 58) (.c (.int .i64 8))), (some (57, false)), [15, 14]⟩,
    ⟨(some 60), (.mv (.s 59)), (some (57, false)), [16, 14, 14]⟩,
    ⟨(some 61), (.mv (.s 11)), (some (60, true)), [17]⟩,
    ⟨(some 62), (.mv (.s 0)), (some (60, true)), [17]⟩,
    ⟨(some 63), (.mv (.s 1)), (some (60, true)), [17]⟩,
    ⟨(some 64), (.bin .mul (.c (.int .i64 8)) (.s 63)), (some (60, true)), [20, 17]⟩,
    ⟨(some 65), (.bin .shl (.c (.int .u64 1)) (.s 64)), (some (60, true)), [21, 17]⟩,
    ⟨(some 66), (.bin .rem (.s 62) (.s 65)), (some (60, true)), [19, 22, 17]⟩,
    ⟨(some 67), (.bin .neq (.s 61) (.s 66)), (some (60, true)), [18, 23, 17]⟩,
    ⟨(some 68), (.pick (.s 60) (.s 67) (.c (.bool false))), (some (57, false)), [17, 24, 14]⟩,
    ⟨(some 69), (.pick (.s 57) (.c (.bool true)) (.s 68)), (some (45, true)), [14, 25, 2]⟩,
    ⟨(some 70), (.mv (.s 69)), (some (45, true)), [26, 17, 2]⟩,
    ⟨(some 71), (.mv (.s 9)), (some (70, false)), [27]⟩,
    ⟨(some 72), (.len false (.s 71)), (some (70, false)), [28, 27]⟩,
    ⟨(some 73), (.mv (.s 1)), (some (70, false)), [27]⟩,
    ⟨(some 74), (.bin .neq (.s 72) (.s 73)), (some (70, false)), [29, 30, 27]⟩,
    ⟨(some 75), (.pick (.s 70) (.c (.bool true)) (.s 74)), (some (45, true)), [27, 31, 2]⟩,
    ⟨(some 76), (.pick (.s 45) (.s 75) (.c (.bool false))), none, [2, 32]⟩] false)
  (.cond (.s 76)
   (.seq (.region [
     ⟨(some 6), (.mv (.c (.bool false))), none, []⟩] false)
   .ret)
   .skip))
  (.seq (.region [
    ⟨(some 78), (.mv (.s 7)), none, []⟩,
    ⟨(some 79), (.mv (.s 8)), none, []⟩,
    ⟨(some 80), (.call (.c (.fn 44 [])) [(.s 78), (.s 79)]), none, [0, 1]⟩,
    ⟨(some 77), (.mv (.s 80)), none, [2]⟩,
    ⟨(some 81), (.ext (.s 77) 0), none, [3]⟩,
    ⟨(some 82), (.ext (.s 77) 1), none, [3]⟩,
    ⟨(some 13), (.mv (.s 81)), none, [4, 2, 0, 1, 2, 3, 4]⟩,
    ⟨(some 14), (.mv (.s 82)), none, [5, 6, 0, 1, 2, 3, 4, 5, 6]⟩] false)
  (.seq (.region [
    ⟨(some 84), (.mv (.s 13)), none, []⟩,
    ⟨(some 85), (.mv (.s 8)), none, []⟩,
    ⟨(some 86), (.call (.c (.fn 44 [])) [(.s 84), (.s 85)]), none, [0, 1]⟩,
    ⟨(some 83), (.mv (.s 86)), none, [2]⟩,
    ⟨(some 87), (.ext (.s 83) 0), none, [3]⟩,
    ⟨(some 88), (.ext (.s 83) 1), none, [3]⟩,
    ⟨(some 15), (.mv (.s 87)), none, [4, 2, 0, 1, 2, 3, 4]⟩,
    ⟨(some 16), (.mv (.s 88)), none, [5, 6, 0, 1, 2, 3, 4, 5, 6]⟩] false)
  (.seq (.region [
    ⟨(some 90), (.mv (.s 7)), none, []⟩,
    ⟨(some 91), (.call (.c (.fn 42 [])) [(.s 90)]), none, [0]⟩,
    ⟨(some 92), (.call (.c (.fn 40 [])) [(.s 91)]), none, [1, 1]⟩,
    ⟨(some 89), (.mv (.s 92)), none, [2]⟩,
    ⟨(some 93), (.ext (.s 89) 0), none, [3]⟩,
    ⟨(some 94), (.ext (.s 89) 1), none, [3]⟩,
    ⟨(some 17), (.mv (.s 93)), none, [4, 2, 0, 1, 2, 3, 4]⟩,
    ⟨(some 18), (.mv (.s 94)), none, [5, 6, 0, 1, 2, 3, 4, 5, 6]⟩] false)
  (.seq (.region [
    ⟨(some 95), (.mv (.s 14)), none, []⟩,
    ⟨(some 96), (.bin .neq (.s 95) (.c (.int .i64 0))), none, [0]⟩,
    ⟨(some 97), (.mv (.s 96)), none, [1]⟩,
    ⟨(some 98), (.mv (.s 16)), (some (97, false)), [2]⟩,
    ⟨(some 99), (.bin .eql (.s 98) (.c (.int .i64 0))), (some (97, false)), [3, 2]⟩,
    ⟨(some 100), (.mv (.s 99)), (some (97, false)), [4, 2, 2]⟩,
    ⟨(some 101), (.mv (.s 15)), (some (100, true)), [5]⟩,
    ⟨(some 102), (.mv (.s 7)), (some (100, true)), [5]⟩,
    ⟨(some 103), (.call (.c (.fn 23 [])) [(.s 101), (.s 102)]), (some (100, true)), [6, 7, 5, 5]⟩,
    ⟨(some 104), (.pick (.s 100) (.s 103) (.c (.bool false))), (some (97, false)), [5, 8, 2]⟩,
    ⟨(some 105), (.pick (.s 97) (.c (.bool true)) (.s 104)), none, [2, 9]⟩,
    ⟨(some 106), (.mv (.s 105)), none, [10, 8]⟩,
    ⟨(some 107), (.mv (.s 17)), (some (106, true)), [11]⟩,
    ⟨(some 108), (.mv (.s 7)), (some (106, true)), [11]⟩,
    ⟨(some 109), (.call (.c (.fn 23 [])) [(.s 107), (.s 108)]), (some (106, true)), [12, 13, 11, 11]⟩,
    ⟨(some 110), (.pick (.s 106) (.s 109) (.c (.bool false))), none, [11, 14]⟩,
    ⟨(some 111), (.mv (.s 110)), none, [15, 14]⟩,
    ⟨(some 112), (.mv (.s 18)), (some (111, true)), [16]⟩,
    ⟨(some 113), (.bin .eql (.s 112) (.c (.int .i64 0))), (some (111, true)), [17, 16]⟩,
    ⟨(some 114), (.pick (.s 111) (.s 113) (.c (.bool false))), none, [16, 18]⟩,
    ⟨(some 115), (.mv (.s 114)), none, [19, 16]⟩,
    ⟨(some 116), (.call (.c (.fn 18 [])) []), (some (115, true)), [20, 20]⟩,
    ⟨(some 117), (.pick (.s 115) (.s 116) (.c (.bool false))), none, [20, 21]⟩,
    ⟨(some 6), (.mv (.s 117)), none, [22, 21, 0, 1, 2, 3, 4, 5, 6, 7, 8, 9, 10, 11, 12, 13, 14, 15, 16, 17, 18, 19, 20, 21, 22]⟩] false)
  .ret)))))))))), false, (some [(Sh.int .u64), (Sh.int .i64), (Sh.st (Sh.pr (Sh.sl (Sh.int .u8)) (Sh.sl (Sh.int .u8))))]), (some Sh.bool), false⟩

/-- euphroe/euphroelaw01.alive -/
def k18 : Fun := ⟨0, 54, [0, 1, 2, 3, 4, 5, 6], [(.tmp 0)],
  (.seq (.region [
    ⟨(some 0), (.mv (.c (.bool false))), none, []⟩] false)
  (.seq (.region [
    ⟨(some 8), (.call (.c (.fn 19 [])) [(.c (.int .u64 258)), (.c (.int .i64 2)), (.c (.bool false))]), none, []⟩,
    ⟨(some 7), (.mv (.s 8)), none, [0]⟩,
    ⟨(some 9), (.ext (.s 7) 0), none, [1]⟩,
    ⟨(some 10), (.ext (.s 7) 1), none, [1]⟩,
    ⟨(some 1), (.mv (.s 9)), none, [2, 0, 0, 1, 2]⟩,
    ⟨(some 2), (.mv (.s 10)), none, [3, 4, 0, 1, 2, 3, 4]⟩] false)
  (.seq (.region [
    ⟨(some 12), (.call (.c (.fn 19 [])) [(.c (.int .u64 258)), (.c (.int .i64 2)), (.c (.bool true))]), none, []⟩,
    ⟨(some 11), (.mv (.s 12)), none, [0]⟩,
    ⟨(some 13), (.ext (.s 11) 0), none, [1]⟩,
    ⟨(some 14), (.ext (.s 11) 1), none, [1]⟩,
    ⟨(some 3), (.mv (.s 13)), none, [2, 0, 0, 1, 2]⟩,
    ⟨(some 4), (.mv (.s 14)), none, [3, 4, 0, 1, 2, 3, 4]⟩] false)
  (.seq (.region [
    ⟨(some 16), (.mv (.s 1)), none, []⟩,
    ⟨(some 17), (.call (.c (.fn 21 [])) [(.s 16), (.c (.bool false))]), none, [0]⟩,
    ⟨(some 15), (.mv (.s 17)), none, [1]⟩,
    ⟨(some 18), (.ext (.s 15) 0), none, [2]⟩,
    ⟨(some 19), (.ext (.s 15) 1), none, [2]⟩,
    ⟨(some 5), (.mv (.s 18)), none, [3, 1, 0, 1, 2, 3]⟩,
    ⟨(some 6), (.mv (.s 19)), none, [4, 5, 0, 1, 2, 3, 4, 5]⟩] false)
  (.seq (.region [
    ⟨(some 20), (.mv (.s 1)), none, []⟩,
    ⟨(some 21), (.b2s (.s 20)), none, [0]⟩,
    ⟨(some 22), (.bin .eql (.s 21) (.c (.str [1, 2]))), none, [1]⟩,
    ⟨(some 23), (.mv (.s 22)), none, [2]⟩,
    ⟨(some 24), (.mv (.s 2)), (some (23, true)), [3]⟩,
    ⟨(some 25), (.bin .eql (.s 24) (.c (.int .i64 0))), (some (23, true)), [4, 3]⟩,
    ⟨(some 26), (.pick (.s 23) (.s 25) (.c (.bool false))), none, [3, 5]⟩,
    ⟨(some 27), (.mv (.s 26)), none, [6, 3]⟩,
    ⟨(some 28), (.mv (.s 3)), (some (27, true)), [7]⟩,
    ⟨(some 29), (.b2s (.s 28)), (some (27, true)), [8, 7]⟩,
    ⟨(some 30), (.bin .eql (.s 29) (.c (.str [2, 1]))), (some (27, true)), [9, 7]⟩,
    ⟨(some 31), (.pick (.s 27) (.s 30) (.c (.bool false))), none, [7, 10]⟩,
    ⟨(some 32), (.mv (.s 31)), none, [11, 7]⟩,
    ⟨(some 33), (.mv (.s 4)), (some (32, true)), [12]⟩,
    ⟨(some 34), (.bin .eql (.s 33) (.c (.int .i64 0))), (some (32, true)), [13, 12]⟩,
    ⟨(some 35), (.pick (.s 32) (.s 34) (.c (.bool false))), none, [12, 14]⟩,
    ⟨(some 36), (.mv (.s 35)), none, [15, 12]⟩,
    ⟨(some 37), (.mv (.s 5)), (some (36, true)), [16]⟩,
    ⟨(some 38), (.bin .eql (.s 37) (.c (.int .u64 258))), (some (36, true)), [17, 16]⟩,
    ⟨(some 39), (.pick (.s 36) (.s 38) (.c (.bool false))), none, [16, 18]⟩,
    ⟨(some 40), (.mv (.s 39)), none, [19, 16]⟩,
    ⟨(some 41), (.mv (.s 6)), (some (40, true)), [20]⟩,
    ⟨(some 42), (.bin .eql (.s 41) (.c (.int .i64 0))), (some (40, true)), [21, 20]⟩,
    ⟨(some 43), (.pick (.s 40) (.s 42) (.c (.bool false))), none, [20, 22]⟩,
    ⟨(some 44), (.mv (.s 43)), none, [23, 20]⟩,
    ⟨(some 45), (.bsl 1 1 (.ints .u8 [0]) [(0, 1, (.c (.int .u8 171)))]), (some (44, true)), [24]⟩,
    ⟨(some 46), (.call (.c (.fn 42 [])) [(.s 45)]), (some (44, true)), [25, 24, 24]⟩,
    ⟨(some 47), (.bin .eql (.s 46) (.c (.str [65, 66]))), (some (44, true)), [26, 24]⟩,
    ⟨(some 48), (.pick (.s 44) (.s 47) (.c (.bool false))), none, [24, 27]⟩,
    ⟨(some 49), (.mv (.s 48)), none, [28, 26]⟩,
    ⟨(some 50), (.mv (.s 1)), (some (49, true)), [29]⟩,
    ⟨(some 51), (.mv (.s 1)), (some (49, true)), [29]⟩,
    ⟨(some 52), (.call (.c (.fn 47 [])) [(.s 50), (.s 51)]), (some (49, true)), [30, 31, 29, 29]⟩,
    ⟨(some 53), (.pick (.s 49) (.s 52) (.c (.bool false))), none, [29, 32]⟩,
    ⟨(some 0), (.mv (.s 53)), none, [33, 32, 0, 1, 2, 3, 4, 5, 6, 7, 8, 9, 10, 11, 12, 13, 14, 15, 16, 17, 18, 19, 20, 21, 22, 23, 24, 25, 26, 27, 28, 29, 30, 31, 32, 33]⟩] false)
  .ret))))), false, (some []), (some Sh.bool), false⟩

/-- euphroe/octs.Put -/
def k19 : Fun := ⟨3, 37, [0, 1, 2, 6, 7, 8, 9, 15, 19, 20, 21, 33], [(.tmp 6), (.tmp 7)],
  (.seq (.region [
    ⟨(some 6), (.mv (.c .nils)), none, []⟩,
    ⟨(some 7), (.mv (.c (.int .i64 0))), none, [0]⟩] false)
  (.seq (.seq (.region [
    ⟨(some 10), (.mv (.s 1)), none, []⟩,
    ⟨(some 11), (.bin .lss (.s 10) (.c (.int .i64 1))), none, [0]⟩,
    ⟨(some 12), (.mv (.s 11)), none, [1]⟩,
    ⟨(some 13), (.mv (.s 1)), (some (12, false)), [2]⟩,
    ⟨(some 14), (.bin .gtr (.s 13) (.c (.int .i64 8))), (some (12, false)), [3, 2]⟩,
    ⟨(some 15), (.pick (.s 12) (.c (.bool true)) (.s 14)), none, [2, 4]⟩] false)
  (.cond (.s 15)
   (.seq (.region [
     ⟨(some 6), (.mv (.c .nils)), none, []⟩,
     ⟨(some 7), (.mv (.c (.int .i64 1))), none, [0, 0]⟩] false)
   .ret)
   .skip))
  (.seq (.region [
    ⟨(some 16), (.mv (.s 1)), none, []⟩,
    ⟨(some 17), (.mks (.ints .u8 [0]) 1 1 (.s 16) (.s 16)), none, [0, 0]⟩,
    ⟨(some 8), (.mv (.s 17)), none, [1, 0, 1]⟩] false)
  (.seq (.seq (.region [
    ⟨(some 18), (.mv (.s 8)), none, []⟩,
    ⟨(some 19), (.len false (.s 18)), none, [0]⟩,
    ⟨(some 20), (.mv (.c (.int .i64 0))), none, []⟩] false)
  (.block 0
   (.loop ⟨0, [], false, [0, 2, 8, 19, 20], []⟩
    (.seq (.region [
      ⟨(some 21), (.bin .lss (.s 20) (.s 19)), none, []⟩] false)
    (.seq (.cond (.s 21)
     .skip
     (.pre ⟨0, [], false, [2, 8], []⟩ (.exit 0)))
    (.seq (.block 1
     (.seq (.region [
       ⟨(some 22), (.mv (.s 20)), none, []⟩,
       ⟨(some 9), (.mv (.s 22)), none, [0, 0]⟩] false)
     (.region [
       ⟨(some 23), (.mv (.s 8)), none, []⟩,
       ⟨(some 24), (.mv (.s 9)), none, []⟩,
       ⟨(some 25), (.mv (.s 0)), none, []⟩,
       ⟨(some 26), (.mv (.s 9)), none, []⟩,
       ⟨(some 27), (.bin .mul (.c (.int .i64 8)) (.s 26)), none, [3]⟩,
       ⟨(some 28), (.bin .shr (.s 25) (.s 27)), none, [2, 4]⟩,
       ⟨(some 29), (.cvi .u8 (.s 28)), none, [5]⟩,
       ⟨(some 30), (.iad 1 (.s 23) (.s 24)), none, [0, 1, 0, 1, 2, 3, 4, 5, 6]⟩,
       ⟨none, (.stc 1 (.s 30) (.s 29)), none, [7, 6, 0, 1, 2, 3, 4, 5, 6]⟩] false)))
    (.region [
      ⟨(some 31), (.bin .add (.s 20) (.c (.int .i64 1))), none, []⟩,
      ⟨(some 20), (.mv (.s 31)), none, [0]⟩] false)))))))
  (.seq (.seq (.region [
    ⟨(some 32), (.mv (.s 2)), none, []⟩,
    ⟨(some 33), (.un .not (.s 32)), none, [0]⟩] false)
  (.cond (.s 33)
   (.region [
     ⟨(some 34), (.mv (.s 8)), none, []⟩,
     ⟨(some 35), (.call (.c (.fn 48 [])) [(.s 34)]), none, [0]⟩] false)
   .skip))
  (.seq (.region [
    ⟨(some 36), (.mv (.s 8)), none, []⟩,
    ⟨(some 6), (.mv (.s 36)), none, [0, 0]⟩,
    ⟨(some 7), (.mv (.c (.int .i64 0))), none, [1, 0, 1]⟩] false)
  .ret)))))), false, (some [(Sh.int .u64), (Sh.int .i64), Sh.bool]), (some (Sh.tu (Sh.pr (Sh.sl (Sh.int .u8)) (Sh.int .i64)))), false⟩

/-- euphroe/octs.Get -/
def k21 : Fun := ⟨2, 39, [0, 1, 4, 5, 6, 7, 8, 16, 17, 18, 19, 20, 24], [(.tmp 4), (.tmp 5)],
  (.seq (.region [
    ⟨(some 4), (.mv (.c (.int .u64 0))), none, []⟩,
    ⟨(some 5), (.mv (.c (.int .i64 0))), none, [0]⟩] false)
  (.seq (.seq (.region [
    ⟨(some 9), (.mv (.s 0)), none, []⟩,
    ⟨(some 10), (.len false (.s 9)), none, [0]⟩,
    ⟨(some 11), (.bin .lss (.s 10) (.c (.int .i64 1))), none, [1]⟩,
    ⟨(some 12), (.mv (.s 11)), none, [2]⟩,
    ⟨(some 13), (.mv (.s 0)), (some (12, false)), [3]⟩,
    ⟨(some 14), (.len false (.s 13)), (some (12, false)), [4, 3]⟩,
    ⟨(some 15), (.bin .gtr (.s 14) (.c (.int .i64 8))), (some (12, false)), [5, 3]⟩,
    ⟨(some 16), (.pick (.s 12) (.c (.bool true)) (.s 15)), none, [3, 6]⟩] false)
  (.cond (.s 16)
   (.seq (.region [
     ⟨(some 4), (.mv (.c (.int .u64 0))), none, []⟩,
     ⟨(some 5), (.mv (.c (.int .i64 1))), none, [0, 0]⟩] false)
   .ret)
   .skip))
  (.seq (.region [
    ⟨(some 6), (.mv (.c (.int .u64 0))), none, []⟩] false)
  (.seq (.seq (.region [
    ⟨(some 17), (.mv (.s 0)), none, []⟩,
    ⟨(some 18), (.len false (.s 17)), none, [0]⟩,
    ⟨(some 19), (.mv (.c (.int .i64 0))), none, []⟩] false)
  (.block 0
   (.loop ⟨0, [], false, [1, 6, 17, 18, 19], []⟩
    (.seq (.region [
      ⟨(some 20), (.bin .lss (.s 19) (.s 18)), none, []⟩] false)
    (.seq (.cond (.s 20)
     .skip
     (.pre ⟨0, [], false, [6], []⟩ (.exit 0)))
    (.seq (.block 1
     (.seq (.region [
       ⟨(some 21), (.mv (.s 19)), none, []⟩,
       ⟨(some 22), (.iad 1 (.s 17) (.s 19)), none, []⟩,
       ⟨(some 23), (.ldc (.s 22)), none, [1]⟩,
       ⟨(some 7), (.mv (.s 21)), none, [0, 0, 1, 2]⟩,
       ⟨(some 8), (.mv (.s 23)), none, [2, 3, 0, 1, 2, 3]⟩] false)
     (.seq (.region [
       ⟨(some 24), (.mv (.s 1)), none, []⟩] false)
     (.cond (.s 24)
      (.region [
        ⟨(some 25), (.mv (.s 6)), none, []⟩,
        ⟨(some 26), (.mv (.s 8)), none, []⟩,
        ⟨(some 27), (.cvi .u64 (.s 26)), none, [1]⟩,
        ⟨(some 28), (.mv (.s 7)), none, []⟩,
        ⟨(some 29), (.bin .mul (.c (.int .i64 8)) (.s 28)), none, [3]⟩,
        ⟨(some 30), (.bin .shl (.s 27) (.s 29)), none, [2, 4]⟩,
        ⟨(some 31), (.bin .or (.s 25) (.s 30)), none, [0, 5]⟩,
        ⟨(some 6), (.mv (.s 31)), none, [6, 0, 1, 2, 3, 4, 5, 6]⟩] false)
      (.region [
        ⟨(some 32), (.mv (.s 6)), none, []⟩,
        ⟨(some 33), (.bin .shl (.s 32) (.c (.int .u64 8))), none, [0]⟩,
        ⟨(some 34), (.mv (.s 8)), none, []⟩,
        ⟨(some 35), (.cvi .u64 (.s 34)), none, [2]⟩,
        ⟨(some 36), (.bin .or (.s 33) (.s 35)), none, [1, 3]⟩,
        ⟨(some 6), (.mv (.s 36)), none, [4, 0, 1, 2, 3, 4]⟩] false)))))
    (.region [
      ⟨(some 37), (.bin .add (.s 19) (.c (.int .i64 1))), none, []⟩,
      ⟨(some 19), (.mv (.s 37)), none, [0]⟩] false)))))))
  (.seq (.region [
    ⟨(some 38), (.mv (.s 6)), none, []⟩,
    ⟨(some 4), (.mv (.s 38)), none, [0, 0]⟩,
    ⟨(some 5), (.mv (.c (.int .i64 0))), none, [1, 0, 1]⟩] false)
  .ret))))), false, (some [(Sh.sl (Sh.int .u8)), Sh.bool]), (some (Sh.tu (Sh.pr (Sh.int .u64) (Sh.int .i64)))), false⟩

/-- euphroe/euphroeref01.Same -/
def k23 : Fun := ⟨2, 26, [0, 1, 4, 5, 10, 14, 25], [(.tmp 4)],
  (.seq (.region [
    ⟨(some 4), (.mv (.c (.bool false))), none, []⟩] false)
  (.seq (.seq (.region [
    ⟨(some 6), (.mv (.s 0)), none, []⟩,
    ⟨(some 7), (.len false (.s 6)), none, [0]⟩,
    ⟨(some 8), (.mv (.s 1)), none, []⟩,
    ⟨(some 9), (.len false (.s 8)), none, [2]⟩,
    ⟨(some 10), (.bin .neq (.s 7) (.s 9)), none, [1, 3]⟩] false)
  (.cond (.s 10)
   (.seq (.region [
     ⟨(some 4), (.mv (.c (.bool false))), none, []⟩] false)
   .ret)
   .skip))
  (.seq (.seq (.region [
    ⟨(some 5), (.mv (.c (.int .i64 0))), none, []⟩] false)
  (.block 0
   (.loop ⟨0, [], false, [0, 1, 5], []⟩
    (.seq (.seq (.region [
      ⟨(some 11), (.mv (.s 5)), none, []⟩,
      ⟨(some 12), (.mv (.s 0)), none, []⟩,
      ⟨(some 13), (.len false (.s 12)), none, [1]⟩,
      ⟨(some 14), (.bin .lss (.s 11) (.s 13)), none, [0, 2]⟩] false)
    (.cond (.s 14)
     .skip
     (.pre ⟨0, [], false, [], []⟩ (.exit 0))))
    (.seq (.block 1
     (.seq (.region [
       ⟨(some 17), (.mv (.s 0)), none, []⟩,
       ⟨(some 18), (.mv (.s 5)), none, []⟩,
       ⟨(some 19), (.iad 1 (.s 17) (.s 18)), none, [0, 1]⟩,
       ⟨(some 20), (.ldc (.s 19)), none, [2]⟩,
       ⟨(some 21), (.mv (.s 1)), none, []⟩,
       ⟨(some 22), (.mv (.s 5)), none, []⟩,
       ⟨(some 23), (.iad 1 (.s 21) (.s 22)), none, [4, 5]⟩,
       ⟨(some 24), (.ldc (.s 23)), none, [6]⟩,
       ⟨(some 25), (.bin .neq (.s 20) (.s 24)), none, [3, 7]⟩] true)
     (.cond (.s 25)
      (.seq (.region [
        ⟨(some 4), (.mv (.c (.bool false))), none, []⟩] false)
      .ret)
      .skip)))
    (.region [
      ⟨(some 15), (.mv (.s 5)), none, []⟩,
      ⟨(some 16), (.bin .add (.s 15) (.c (.int .i64 1))), none, [0]⟩,
      ⟨(some 5), (.mv (.s 16)), none, [1, 0, 1]⟩] false))))))
  (.seq (.region [
    ⟨(some 4), (.mv (.c (.bool true))), none, []⟩] false)
  .ret)))), false, (some [(Sh.sl (Sh.int .u8)), (Sh.sl (Sh.int .u8))]), (some Sh.bool), false⟩

/-- euphroe/octs.Unhex -/
def k40 : Fun := ⟨1, 30, [0, 2, 3, 4, 5, 9, 11, 22], [(.tmp 2), (.tmp 3)],
  (.seq (.region [
    ⟨(some 2), (.mv (.c .nils)), none, []⟩,
    ⟨(some 3), (.mv (.c (.int .i64 0))), none, [0]⟩] false)
  (.scope
   (.seq (.seq (.region [
     ⟨(some 6), (.mv (.s 0)), none, []⟩,
     ⟨(some 7), (.len true (.s 6)), none, [0]⟩,
     ⟨(some 8), (.bin .rem (.s 7) (.c (.int .i64 2))), none, [1]⟩,
     ⟨(some 9), (.bin .neq (.s 8) (.c (.int .i64 0))), none, [2]⟩] false)
   (.cond (.s 9)
    (.seq (.region [
      ⟨(some 2), (.mv (.c .nils)), none, []⟩,
      ⟨(some 3), (.mv (.c (.int .i64 3))), none, [0, 0]⟩] false)
    .ret)
    .skip))
   (.seq (.region [
     ⟨(some 4), (.mv (.c .nils)), none, []⟩] false)
   (.seq (.label 0)
   (.seq (.seq (.region [
     ⟨(some 10), (.mv (.s 0)), none, []⟩,
     ⟨(some 11), (.bin .eql (.s 10) (.c (.str []))), none, [0]⟩] false)
   (.cond (.s 11)
    (.seq (.region [
      ⟨(some 12), (.mv (.s 4)), none, []⟩,
      ⟨(some 2), (.mv (.s 12)), none, [0, 0]⟩,
      ⟨(some 3), (.mv (.c (.int .i64 0))), none, [1, 0, 1]⟩] false)
    .ret)
    .skip))
   (.seq (.region [
     ⟨(some 13), (.mv (.s 0)), none, []⟩,
     ⟨(some 14), (.ixs (.s 13) (.c (.int .i64 0))), none, [0]⟩,
     ⟨(some 15), (.call (.c (.fn 59 [])) [(.s 14)]), none, [1]⟩,
     ⟨(some 16), (.bin .shl (.s 15) (.c (.int .u64 4))), none, [2]⟩,
     ⟨(some 17), (.mv (.s 0)), none, []⟩,
     ⟨(some 18), (.ixs (.s 17) (.c (.int .i64 1))), none, [4]⟩,
     ⟨(some 19), (.call (.c (.fn 59 [])) [(.s 18)]), none, [5, 2]⟩,
     ⟨(some 20), (.bin .or (.s 16) (.s 19)), none, [3, 6]⟩,
     ⟨(some 5), (.mv (.s 20)), none, [7, 6, 0, 1, 2, 3, 4, 5, 6, 7]⟩] true)
   (.seq (.seq (.region [
     ⟨(some 21), (.mv (.s 5)), none, []⟩,
     ⟨(some 22), (.bin .lss (.s 21) (.c (.int .i64 0))), none, [0]⟩] false)
   (.cond (.s 22)
    (.seq (.region [
      ⟨(some 2), (.mv (.c .nils)), none, []⟩,
      ⟨(some 3), (.mv (.c (.int .i64 3))), none, [0, 0]⟩] false)
    .ret)
    .skip))
   (.seq (.region [
     ⟨(some 23), (.mv (.s 4)), none, []⟩,
     ⟨(some 24), (.mv (.s 5)), none, []⟩,
     ⟨(some 25), (.cvi .u8 (.s 24)), none, [1]⟩,
     ⟨(some 26), (.bsl 1 1 (.ints .u8 [0]) [(0, 1, (.s 25))]), none, [2]⟩,
     ⟨(some 27), (.app 1 1 (.s 23) (.s 26)), none, [0, 3]⟩,
     ⟨(some 4), (.mv (.s 27)), none, [4, 4, 0, 1, 2, 3, 4]⟩] false)
   (.seq (.region [
     ⟨(some 28), (.mv (.s 0)), none, []⟩,
     ⟨(some 29), (.ssl (.s 28) (some (.c (.int .i64 2))) none), none, [0]⟩,
     ⟨(some 0), (.mv (.s 29)), none, [1, 0, 1]⟩] false)
   (.pre ⟨0, [], false, [0, 4], []⟩ (.goto 0)))))))))))), false, (some [Sh.str]), (some (Sh.tu (Sh.pr (Sh.sl (Sh.int .u8)) (Sh.int .i64)))), false⟩

/-- euphroe/euphroeref01.Unhex -/
def k41 : Fun := ⟨1, 41, [0, 2, 3, 4, 5, 6, 7, 11, 15, 32], [(.tmp 2), (.tmp 3)],
  (.seq (.region [
    ⟨(some 2), (.mv (.c .nils)), none, []⟩,
    ⟨(some 3), (.mv (.c (.int .i64 0))), none, [0]⟩] false)
  (.seq (.seq (.region [
    ⟨(some 8), (.mv (.s 0)), none, []⟩,
    ⟨(some 9), (.len true (.s 8)), none, [0]⟩,
    ⟨(some 10), (.bin .rem (.s 9) (.c (.int .i64 2))), none, [1]⟩,
    ⟨(some 11), (.bin .neq (.s 10) (.c (.int .i64 0))), none, [2]⟩] false)
  (.cond (.s 11)
   (.seq (.region [
     ⟨(some 2), (.mv (.c .nils)), none, []⟩,
     ⟨(some 3), (.mv (.c (.int .i64 3))), none, [0, 0]⟩] false)
   .ret)
   .skip))
  (.seq (.region [
    ⟨(some 4), (.mv (.c .nils)), none, []⟩] false)
  (.seq (.seq (.region [
    ⟨(some 5), (.mv (.c (.int .i64 0))), none, []⟩] false)
  (.block 0
   (.loop ⟨0, [], false, [0, 4, 5], [(4, (.ints .u8 []), 1)]⟩
    (.seq (.seq (.region [
      ⟨(some 12), (.mv (.s 5)), none, []⟩,
      ⟨(some 13), (.mv (.s 0)), none, []⟩,
      ⟨(some 14), (.len true (.s 13)), none, [1]⟩,
      ⟨(some 15), (.bin .lss (.s 12) (.s 14)), none, [0, 2]⟩] false)
    (.cond (.s 15)
     .skip
     (.pre ⟨0, [], false, [4], []⟩ (.exit 0))))
    (.seq (.block 1
     (.seq (.region [
       ⟨(some 18), (.mv (.s 0)), none, []⟩,
       ⟨(some 19), (.mv (.s 5)), none, []⟩,
       ⟨(some 20), (.ixs (.s 18) (.s 19)), none, [0, 1]⟩,
       ⟨(some 21), (.call (.c (.fn 60 [])) [(.s 20)]), none, [2]⟩,
       ⟨(some 22), (.mv (.s 0)), none, []⟩,
       ⟨(some 23), (.mv (.s 5)), none, []⟩,
       ⟨(some 24), (.bin .add (.s 23) (.c (.int .i64 1))), none, [5]⟩,
       ⟨(some 25), (.ixs (.s 22) (.s 24)), none, [4, 6]⟩,
       ⟨(some 26), (.call (.c (.fn 60 [])) [(.s 25)]), none, [7, 3]⟩,
       ⟨(some 6), (.mv (.s 21)), none, [3, 8, 0, 1, 2, 3]⟩,
       ⟨(some 7), (.mv (.s 26)), none, [8, 9, 0, 1, 2, 3, 4, 5, 6, 7, 8, 9]⟩] true)
     (.seq (.seq (.region [
       ⟨(some 27), (.mv (.s 6)), none, []⟩,
       ⟨(some 28), (.bin .gtr (.s 27) (.c (.int .u8 15))), none, [0]⟩,
       ⟨(some 29), (.mv (.s 28)), none, [1]⟩,
       ⟨(some 30), (.mv (.s 7)), (some (29, false)), [2]⟩,
       ⟨(some 31), (.bin .gtr (.s 30) (.c (.int .u8 15))), (some (29, false)), [3, 2]⟩,
       ⟨(some 32), (.pick (.s 29) (.c (.bool true)) (.s 31)), none, [2, 4]⟩] false)
     (.cond (.s 32)
      (.seq (.region [
        ⟨(some 2), (.mv (.c .nils)), none, []⟩,
        ⟨(some 3), (.mv (.c (.int .i64 3))), none, [0, 0]⟩] false)
      .ret)
      .skip))
     (.region [
       ⟨(some 33), (.mv (.s 4)), none, []⟩,
       ⟨(some 34), (.mv (.s 6)), none, []⟩,
       ⟨(some 35), (.bin .mul (.c (.int .u8 16)) (.s 34)), none, [1]⟩,
       ⟨(some 36), (.mv (.s 7)), none, []⟩,
       ⟨(some 37), (.bin .add (.s 35) (.s 36)), none, [2, 3]⟩,
       ⟨(some 38), (.bsl 1 1 (.ints .u8 [0]) [(0, 1, (.s 37))]), none, [4]⟩,
       ⟨(some 39), (.app 1 1 (.s 33) (.s 38)), none, [0, 5]⟩,
       ⟨(some 4), (.mv (.s 39)), none, [6, 6, 0, 1, 2, 3, 4, 5, 6]⟩] false))))
    (.region [
      ⟨(some 16), (.mv (.s 5)), none, []⟩,
      ⟨(some 17), (.bin .add (.s 16) (.c (.int .i64 2))), none, [0]⟩,
      ⟨(some 5), (.mv (.s 17)), none, [1, 0, 1]⟩] false))))))
  (.seq (.region [
    ⟨(some 40), (.mv (.s 4)), none, []⟩,
    ⟨(some 2), (.mv (.s 40)), none, [0, 0]⟩,
    ⟨(some 3), (.mv (.c (.int .i64 0))), none, [1, 0, 1]⟩] false)
  .ret))))), false, (some [Sh.str]), (some (Sh.tu (Sh.pr (Sh.sl (Sh.int .u8)) (Sh.int .i64)))), false⟩

/-- euphroe/octs.Hex -/
def k42 : Fun := ⟨1, 28, [0, 2, 3, 5, 10, 11, 12, 13], [(.tmp 2)],
  (.seq (.region [
    ⟨(some 2), (.mv (.c (.str []))), none, []⟩] false)
  (.seq (.region [
    ⟨(some 6), (.mv (.s 0)), none, []⟩,
    ⟨(some 7), (.len false (.s 6)), none, [0]⟩,
    ⟨(some 8), (.bin .mul (.c (.int .i64 2)) (.s 7)), none, [1]⟩,
    ⟨(some 9), (.mks (.ints .u8 [0]) 1 1 (.c (.int .i64 0)) (.s 8)), none, [2]⟩,
    ⟨(some 3), (.mv (.s 9)), none, [3, 0, 1, 2, 3]⟩] false)
  (.seq (.seq (.region [
    ⟨(some 10), (.mv (.s 0)), none, []⟩,
    ⟨(some 11), (.len false (.s 10)), none, [0]⟩,
    ⟨(some 12), (.mv (.c (.int .i64 0))), none, []⟩] false)
  (.block 0
   (.loop ⟨0, [], false, [3, 10, 11, 12], [(3, (.imm []), 1)]⟩
    (.seq (.region [
      ⟨(some 13), (.bin .lss (.s 12) (.s 11)), none, []⟩] false)
    (.seq (.cond (.s 13)
     .skip
     (.pre ⟨0, [], false, [3], []⟩ (.exit 0)))
    (.seq (.block 1
     (.seq (.region [
       ⟨(some 14), (.iad 1 (.s 10) (.s 12)), none, []⟩,
       ⟨(some 15), (.ldc (.s 14)), none, [0]⟩,
       ⟨(some 5), (.mv (.s 15)), none, [1, 0, 1]⟩] false)
     (.region [
       ⟨(some 16), (.mv (.s 3)), none, []⟩,
       ⟨(some 17), (.mv (.s 5)), none, []⟩,
       ⟨(some 18), (.bin .shr (.s 17) (.c (.int .u64 4))), none, [1]⟩,
       ⟨(some 19), (.ixs (.c (.str [48, 49, 50, 51, 52, 53, 54, 55, 56, 57, 65, 66, 67, 68, 69, 70])) (.s 18)), none, [2]⟩,
       ⟨(some 20), (.mv (.s 5)), none, []⟩,
       ⟨(some 21), (.bin .and (.s 20) (.c (.int .u8 15))), none, [4]⟩,
       ⟨(some 22), (.ixs (.c (.str [48, 49, 50, 51, 52, 53, 54, 55, 56, 57, 65, 66, 67, 68, 69, 70])) (.s 21)), none, [5]⟩,
       ⟨(some 23), (.bsl 2 1 (.ints .u8 [0, 0]) [(0, 1, (.s 19)), (1, 1, (.s 22))]), none, [3, 6]⟩,
       ⟨(some 24), (.app 1 1 (.s 16) (.s 23)), none, [0, 7]⟩,
       ⟨(some 3), (.mv (.s 24)), none, [8, 8, 0, 1, 2, 3, 4, 5, 6, 7, 8]⟩] true)))
    (.region [
      ⟨(some 25), (.bin .add (.s 12) (.c (.int .i64 1))), none, []⟩,
      ⟨(some 12), (.mv (.s 25)), none, [0]⟩] false)))))))
  (.seq (.region [
    ⟨(some 26), (.mv (.s 3)), none, []⟩,
    ⟨(some 27), (.b2s (.s 26)), none, [0]⟩,
    ⟨(some 2), (.mv (.s 27)), none, [1, 0, 1]⟩] false)
  .ret)))), false, (some [(Sh.sl (Sh.int .u8))]), (some Sh.str), false⟩

/-- euphroe/euphroeref01.Hex -/
def k43 : Fun := ⟨1, 40, [0, 2, 3, 4, 5, 6, 7, 11], [(.tmp 2)],
  (.seq (.region [
    ⟨(some 2), (.mv (.c (.str []))), none, []⟩] false)
  (.seq (.region [
    ⟨(some 3), (.mv (.c (.str [48, 49, 50, 51, 52, 53, 54, 55, 56, 57, 65, 66, 67, 68, 69, 70]))), none, []⟩] false)
  (.seq (.region [
    ⟨(some 4), (.mv (.c (.str []))), none, []⟩] false)
  (.seq (.seq (.region [
    ⟨(some 5), (.mv (.c (.int .i64 0))), none, []⟩] false)
  (.block 0
   (.loop ⟨0, [], false, [0, 3, 4, 5], []⟩
    (.seq (.seq (.region [
      ⟨(some 8), (.mv (.s 5)), none, []⟩,
      ⟨(some 9), (.mv (.s 0)), none, []⟩,
      ⟨(some 10), (.len false (.s 9)), none, [1]⟩,
      ⟨(some 11), (.bin .lss (.s 8) (.s 10)), none, [0, 2]⟩] false)
    (.cond (.s 11)
     .skip
     (.pre ⟨0, [], false, [4], []⟩ (.exit 0))))
    (.seq (.block 1
     (.seq (.region [
       ⟨(some 14), (.mv (.s 0)), none, []⟩,
       ⟨(some 15), (.mv (.s 5)), none, []⟩,
       ⟨(some 16), (.iad 1 (.s 14) (.s 15)), none, [0, 1]⟩,
       ⟨(some 17), (.ldc (.s 16)), none, [2]⟩,
       ⟨(some 18), (.bin .quo (.s 17) (.c (.int .u8 16))), none, [3]⟩,
       ⟨(some 19), (.cvi .i64 (.s 18)), none, [4]⟩,
       ⟨(some 20), (.mv (.s 0)), none, []⟩,
       ⟨(some 21), (.mv (.s 5)), none, []⟩,
       ⟨(some 22), (.iad 1 (.s 20) (.s 21)), none, [6, 7]⟩,
       ⟨(some 23), (.ldc (.s 22)), none, [8]⟩,
       ⟨(some 24), (.bin .rem (.s 23) (.c (.int .u8 16))), none, [9]⟩,
       ⟨(some 25), (.cvi .i64 (.s 24)), none, [10]⟩,
       ⟨(some 6), (.mv (.s 19)), none, [5, 0, 1, 2, 3, 4, 5]⟩,
       ⟨(some 7), (.mv (.s 25)), none, [11, 12, 0, 1, 2, 3, 4, 5, 6, 7, 8, 9, 10, 11, 12]⟩] true)
     (.region [
       ⟨(some 26), (.mv (.s 4)), none, []⟩,
       ⟨(some 27), (.mv (.s 3)), none, []⟩,
       ⟨(some 28), (.mv (.s 6)), none, []⟩,
       ⟨(some 29), (.mv (.s 6)), none, []⟩,
       ⟨(some 30), (.bin .add (.s 29) (.c (.int .i64 1))), none, [3]⟩,
       ⟨(some 31), (.ssl (.s 27) (some (.s 28)) (some (.s 30))), none, [1, 2, 4]⟩,
       ⟨(some 32), (.mv (.s 3)), none, []⟩,
       ⟨(some 33), (.mv (.s 7)), none, []⟩,
       ⟨(some 34), (.mv (.s 7)), none, []⟩,
       ⟨(some 35), (.bin .add (.s 34) (.c (.int .i64 1))), none, [8]⟩,
       ⟨(some 36), (.ssl (.s 32) (some (.s 33)) (some (.s 35))), none, [6, 7, 9]⟩,
       ⟨(some 37), (.bin .add (.s 31) (.s 36)), none, [5, 10]⟩,
       ⟨(some 38), (.bin .add (.s 26) (.s 37)), none, [0, 11]⟩,
       ⟨(some 4), (.mv (.s 38)), none, [12, 0, 1, 2, 3, 4, 5, 6, 7, 8, 9, 10, 11, 12]⟩] true)))
    (.region [
      ⟨(some 12), (.mv (.s 5)), none, []⟩,
      ⟨(some 13), (.bin .add (.s 12) (.c (.int .i64 1))), none, [0]⟩,
      ⟨(some 5), (.mv (.s 13)), none, [1, 0, 1]⟩] false))))))
  (.seq (.region [
    ⟨(some 39), (.mv (.s 4)), none, []⟩,
    ⟨(some 2), (.mv (.s 39)), none, [0, 0]⟩] false)
  .ret))))), false, (some [(Sh.sl (Sh.int .u8))]), (some Sh.str), false⟩

/-- euphroe/octs.Xor -/
def k44 : Fun := ⟨2, 32, [0, 1, 4, 5, 6, 7, 8, 13, 16, 17, 18, 19], [(.tmp 4), (.tmp 5)],
  (.seq (.region [
    ⟨(some 4), (.mv (.c .nils)), none, []⟩,
    ⟨(some 5), (.mv (.c (.int .i64 0))), none, [0]⟩] false)
  (.seq (.seq (.region [
    ⟨(some 9), (.mv (.s 0)), none, []⟩,
    ⟨(some 10), (.len false (.s 9)), none, [0]⟩,
    ⟨(some 11), (.mv (.s 1)), none, []⟩,
    ⟨(some 12), (.len false (.s 11)), none, [2]⟩,
    ⟨(some 13), (.bin .neq (.s 10) (.s 12)), none, [1, 3]⟩] false)
  (.cond (.s 13)
   (.seq (.region [
     ⟨(some 4), (.mv (.c .nils)), none, []⟩,
     ⟨(some 5), (.mv (.c (.int .i64 1))), none, [0, 0]⟩] false)
   .ret)
   .skip))
  (.seq (.region [
    ⟨(some 14), (.mv (.s 0)), none, []⟩,
    ⟨(some 15), (.call (.c (.fn 61 [])) [(.s 14)]), none, [0]⟩,
    ⟨(some 6), (.mv (.s 15)), none, [1, 1, 0, 1]⟩] false)
  (.seq (.seq (.region [
    ⟨(some 16), (.mv (.s 1)), none, []⟩,
    ⟨(some 17), (.len false (.s 16)), none, [0]⟩,
    ⟨(some 18), (.mv (.c (.int .i64 0))), none, []⟩] false)
  (.block 0
   (.loop ⟨0, [], false, [6, 16, 17, 18], []⟩
    (.seq (.region [
      ⟨(some 19), (.bin .lss (.s 18) (.s 17)), none, []⟩] false)
    (.seq (.cond (.s 19)
     .skip
     (.pre ⟨0, [], false, [6], []⟩ (.exit 0)))
    (.seq (.block 1
     (.seq (.region [
       ⟨(some 20), (.mv (.s 18)), none, []⟩,
       ⟨(some 21), (.iad 1 (.s 16) (.s 18)), none, []⟩,
       ⟨(some 22), (.ldc (.s 21)), none, [1]⟩,
       ⟨(some 7), (.mv (.s 20)), none, [0, 0, 1, 2]⟩,
       ⟨(some 8), (.mv (.s 22)), none, [2, 3, 0, 1, 2, 3]⟩] false)
     (.region [
       ⟨(some 23), (.mv (.s 6)), none, []⟩,
       ⟨(some 24), (.mv (.s 7)), none, []⟩,
       ⟨(some 25), (.iad 1 (.s 23) (.s 24)), none, [0, 1]⟩,
       ⟨(some 26), (.ldc (.s 25)), none, [2]⟩,
       ⟨(some 27), (.mv (.s 8)), none, []⟩,
       ⟨(some 28), (.bin .xor (.s 26) (.s 27)), none, [3, 4]⟩,
       ⟨(some 29), (.iad 1 (.s 23) (.s 24)), none, [0, 1, 0, 1, 2, 3, 4, 5]⟩,
       ⟨none, (.stc 1 (.s 29) (.s 28)), none, [6, 5, 0, 1, 2, 3, 4, 5]⟩] false)))
    (.region [
      ⟨(some 30), (.bin .add (.s 18) (.c (.int .i64 1))), none, []⟩,
      ⟨(some 18), (.mv (.s 30)), none, [0]⟩] false)))))))
  (.seq (.region [
    ⟨(some 31), (.mv (.s 6)), none, []⟩,
    ⟨(some 4), (.mv (.s 31)), none, [0, 0]⟩,
    ⟨(some 5), (.mv (.c (.int .i64 0))), none, [1, 0, 1]⟩] false)
  .ret))))), false, (some [(Sh.sl (Sh.int .u8)), (Sh.sl (Sh.int .u8))]), (some (Sh.tu (Sh.pr (Sh.sl (Sh.int .u8)) (Sh.int .i64)))), false⟩

/-- euphroe/euphroeref01.Xor -/
def k45 : Fun := ⟨2, 35, [0, 1, 4, 5, 6, 7, 12, 19], [(.tmp 4), (.tmp 5)],
  (.seq (.region [
    ⟨(some 4), (.mv (.c .nils)), none, []⟩,
    ⟨(some 5), (.mv (.c (.int .i64 0))), none, [0]⟩] false)
  (.seq (.seq (.region [
    ⟨(some 8), (.mv (.s 0)), none, []⟩,
    ⟨(some 9), (.len false (.s 8)), none, [0]⟩,
    ⟨(some 10), (.mv (.s 1)), none, []⟩,
    ⟨(some 11), (.len false (.s 10)), none, [2]⟩,
    ⟨(some 12), (.bin .neq (.s 9) (.s 11)), none, [1, 3]⟩] false)
  (.cond (.s 12)
   (.seq (.region [
     ⟨(some 4), (.mv (.c .nils)), none, []⟩,
     ⟨(some 5), (.mv (.c (.int .i64 1))), none, [0, 0]⟩] false)
   .ret)
   .skip))
  (.seq (.region [
    ⟨(some 13), (.mv (.s 0)), none, []⟩,
    ⟨(some 14), (.len false (.s 13)), none, [0]⟩,
    ⟨(some 15), (.mks (.ints .u8 [0]) 1 1 (.s 14) (.s 14)), none, [1, 1]⟩,
    ⟨(some 6), (.mv (.s 15)), none, [2, 0, 1, 2]⟩] false)
  (.seq (.seq (.region [
    ⟨(some 7), (.mv (.c (.int .i64 0))), none, []⟩] false)
  (.block 0
   (.loop ⟨0, [], false, [0, 1, 6, 7], []⟩
    (.seq (.seq (.region [
      ⟨(some 16), (.mv (.s 7)), none, []⟩,
      ⟨(some 17), (.mv (.s 0)), none, []⟩,
      ⟨(some 18), (.len false (.s 17)), none, [1]⟩,
      ⟨(some 19), (.bin .lss (.s 16) (.s 18)), none, [0, 2]⟩] false)
    (.cond (.s 19)
     .skip
     (.pre ⟨0, [], false, [6], []⟩ (.exit 0))))
    (.seq (.block 1
     (.region [
       ⟨(some 22), (.mv (.s 6)), none, []⟩,
       ⟨(some 23), (.mv (.s 7)), none, []⟩,
       ⟨(some 24), (.mv (.s 0)), none, []⟩,
       ⟨(some 25), (.mv (.s 7)), none, []⟩,
       ⟨(some 26), (.iad 1 (.s 24) (.s 25)), none, [2, 3]⟩,
       ⟨(some 27), (.ldc (.s 26)), none, [4]⟩,
       ⟨(some 28), (.mv (.s 1)), none, []⟩,
       ⟨(some 29), (.mv (.s 7)), none, []⟩,
       ⟨(some 30), (.iad 1 (.s 28) (.s 29)), none, [6, 7]⟩,
       ⟨(some 31), (.ldc (.s 30)), none, [8]⟩,
       ⟨(some 32), (.bin .xor (.s 27) (.s 31)), none, [5, 9]⟩,
       ⟨(some 33), (.iad 1 (.s 22) (.s 23)), none, [0, 1, 0, 1, 2, 3, 4, 5, 6, 7, 8, 9, 10]⟩,
       ⟨none, (.stc 1 (.s 33) (.s 32)), none, [11, 10, 0, 1, 2, 3, 4, 5, 6, 7, 8, 9, 10]⟩] true))
    (.region [
      ⟨(some 20), (.mv (.s 7)), none, []⟩,
      ⟨(some 21), (.bin .add (.s 20) (.c (.int .i64 1))), none, [0]⟩,
      ⟨(some 7), (.mv (.s 21)), none, [1, 0, 1]⟩] false))))))
  (.seq (.region [
    ⟨(some 34), (.mv (.s 6)), none, []⟩,
    ⟨(some 4), (.mv (.s 34)), none, [0, 0]⟩,
    ⟨(some 5), (.mv (.c (.int .i64 0))), none, [1, 0, 1]⟩] false)
  .ret))))), false, (some [(Sh.sl (Sh.int .u8)), (Sh.sl (Sh.int .u8))]), (some (Sh.tu (Sh.pr (Sh.sl (Sh.int .u8)) (Sh.int .i64)))), false⟩

/-- euphroe/octs.Join -/
def k46 : Fun := ⟨1, 5, [0, 2], [(.tmp 2)],
  (.seq (.region [
    ⟨(some 2), (.mv (.c .nils)), none, []⟩] false)
  (.seq (.region [
    ⟨(some 3), (.mv (.s 0)), none, []⟩,
    ⟨(some 4), (.call (.c (.fn 1 [])) [(.s 3)]), none, [0]⟩,
    ⟨(some 2), (.mv (.s 4)), none, [1, 1, 0, 1]⟩] false)
  .ret)), false, (some [(Sh.sl (Sh.sl (Sh.int .u8)))]), none, false⟩

/-- euphroe/octs.Same -/
def k47 : Fun := ⟨2, 31, [0, 1, 4, 5, 6, 7, 12, 13, 14, 15, 16], [(.tmp 4)],
  (.seq (.region [
    ⟨(some 4), (.mv (.c (.bool false))), none, []⟩] false)
  (.seq (.seq (.region [
    ⟨(some 8), (.mv (.s 0)), none, []⟩,
    ⟨(some 9), (.len false (.s 8)), none, [0]⟩,
    ⟨(some 10), (.mv (.s 1)), none, []⟩,
    ⟨(some 11), (.len false (.s 10)), none, [2]⟩,
    ⟨(some 12), (.bin .neq (.s 9) (.s 11)), none, [1, 3]⟩] false)
  (.cond (.s 12)
   (.seq (.region [
     ⟨(some 4), (.mv (.c (.bool false))), none, []⟩] false)
   .ret)
   .skip))
  (.seq (.region [
    ⟨(some 5), (.mv (.c (.int .u8 0))), none, []⟩] false)
  (.seq (.seq (.region [
    ⟨(some 13), (.mv (.s 0)), none, []⟩,
    ⟨(some 14), (.len false (.s 13)), none, [0]⟩,
    ⟨(some 15), (.mv (.c (.int .i64 0))), none, []⟩] false)
  (.block 0
   (.loop ⟨0, [], false, [1, 5, 13, 14, 15], []⟩
    (.seq (.region [
      ⟨(some 16), (.bin .lss (.s 15) (.s 14)), none, []⟩] false)
    (.seq (.cond (.s 16)
     .skip
     (.pre ⟨0, [], false, [5], []⟩ (.exit 0)))
    (.seq (.block 1
     (.seq (.region [
       ⟨(some 17), (.mv (.s 15)), none, []⟩,
       ⟨(some 18), (.iad 1 (.s 13) (.s 15)), none, []⟩,
       ⟨(some 19), (.ldc (.s 18)), none, [1]⟩,
       ⟨(some 6), (.mv (.s 17)), none, [0, 0, 1, 2]⟩,
       ⟨(some 7), (.mv (.s 19)), none, [2, 3, 0, 1, 2, 3]⟩] false)
     (.region [
       ⟨(some 20), (.mv (.s 5)), none, []⟩,
       ⟨(some 21), (.mv (.s 7)), none, []⟩,
       ⟨(some 22), (.mv (.s 1)), none, []⟩,
       ⟨(some 23), (.mv (.s 6)), none, []⟩,
       ⟨(some 24), (.iad 1 (.s 22) (.s 23)), none, [2, 3]⟩,
       ⟨(some 25), (.ldc (.s 24)), none, [4]⟩,
       ⟨(some 26), (.bin .xor (.s 21) (.s 25)), none, [1, 5]⟩,
       ⟨(some 27), (.bin .or (.s 20) (.s 26)), none, [0, 6]⟩,
       ⟨(some 5), (.mv (.s 27)), none, [7, 0, 1, 2, 3, 4, 5, 6, 7]⟩] false)))
    (.region [
      ⟨(some 28), (.bin .add (.s 15) (.c (.int .i64 1))), none, []⟩,
      ⟨(some 15), (.mv (.s 28)), none, [0]⟩] false)))))))
  (.seq (.region [
    ⟨(some 29), (.mv (.s 5)), none, []⟩,
    ⟨(some 30), (.bin .eql (.s 29) (.c (.int .u8 0))), none, [0]⟩,
    ⟨(some 4), (.mv (.s 30)), none, [1, 0, 1]⟩] false)
  .ret))))), false, (some [(Sh.sl (Sh.int .u8)), (Sh.sl (Sh.int .u8))]), (some Sh.bool), false⟩

/-- slices.Reverse[[]byte,byte] -/
def k48 : Fun := ⟨1, 28, [0, 2, 3, 9], [],
  (.seq (.region [
    ⟨(some 4), (.mv (.s 0)), none, []⟩,
    ⟨(some 5), (.len false (.s 4)), none, [0]⟩,
    ⟨(some 6), (.bin .sub (.s 5) (.c (.int .i64 1))), none, [1]⟩,
    ⟨(some 2), (.mv (.c (.int .i64 0))), none, []⟩,
    ⟨(some 3), (.mv (.s 6)), none, [2, 3, 0, 1, 2, 3]⟩] false)
  (.block 0
   (.loop ⟨0, [], false, [0, 2, 3], []⟩
    (.seq (.seq (.region [
      ⟨(some 7), (.mv (.s 2)), none, []⟩,
      ⟨(some 8), (.mv (.s 3)), none, []⟩,
      ⟨(some 9), (.bin .lss (.s 7) (.s 8)), none, [0, 1]⟩] false)
    (.cond (.s 9)
     .skip
     (.pre ⟨0, [], false, [], []⟩ (.exit 0))))
    (.seq (.block 1
     (.region [
       ⟨(some 14), (.mv (.s 0)), none, []⟩,
       ⟨(some 15), (.mv (.s 2)), none, []⟩,
       ⟨(some 16), (.mv (.s 0)), none, []⟩,
       ⟨(some 17), (.mv (.s 3)), none, []⟩,
       ⟨(some 18), (.mv (.s 0)), none, []⟩,
       ⟨(some 19), (.mv (.s 3)), none, []⟩,
       ⟨(some 20), (.iad 1 (.s 18) (.s 19)), none, [4, 5]⟩,
       ⟨(some 21), (.ldc (.s 20)), none, [6]⟩,
       ⟨(some 22), (.mv (.s 0)), none, []⟩,
       ⟨(some 23), (.mv (.s 2)), none, []⟩,
       ⟨(some 24), (.iad 1 (.s 22) (.s 23)), none, [8, 9]⟩,
       ⟨(some 25), (.ldc (.s 24)), none, [10]⟩,
       ⟨(some 26), (.iad 1 (.s 14) (.s 15)), none, [0, 1, 0, 1, 4, 5, 6, 7, 11]⟩,
       ⟨none, (.stc 1 (.s 26) (.s 21)), none, [12, 7, 0, 1, 4, 5, 6, 7, 11]⟩,
       ⟨(some 27), (.iad 1 (.s 16) (.s 17)), none, [2, 3, 0, 1, 2, 3, 4, 5, 6, 7, 8, 9, 10, 11, 12, 13]⟩,
       ⟨none, (.stc 1 (.s 27) (.s 25)), none, [14, 11, 13, 0, 1, 2, 3, 4, 5, 6, 7, 8, 9, 10, 11, 12, 13]⟩] true))
    (.region [
      ⟨(some 10), (.mv (.s 2)), none, []⟩,
      ⟨(some 11), (.bin .add (.s 10) (.c (.int .i64 1))), none, [0]⟩,
      ⟨(some 12), (.mv (.s 3)), none, []⟩,
      ⟨(some 13), (.bin .sub (.s 12) (.c (.int .i64 1))), none, [2]⟩,
      ⟨(some 2), (.mv (.s 11)), none, [1, 0, 1]⟩,
      ⟨(some 3), (.mv (.s 13)), none, [3, 4, 0, 1, 2, 3, 4]⟩] false)))))), true, none, none, false⟩

/-- euphroe/octs.digit -/
def k59 : Fun := ⟨1, 13, [0, 2, 8], [(.tmp 2)],
  (.seq (.region [
    ⟨(some 2), (.mv (.c (.int .i64 0))), none, []⟩] false)
  (.seq (.seq (.region [
    ⟨(some 3), (.mv (.s 0)), none, []⟩,
    ⟨(some 4), (.bin .geq (.s 3) (.c (.int .u8 97))), none, [0]⟩,
    ⟨(some 5), (.mv (.s 4)), none, [1]⟩,
    ⟨(some 6), (.mv (.s 0)), (some (5, true)), [2]⟩,
    ⟨(some 7), (.bin .leq (.s 6) (.c (.int .u8 102))), (some (5, true)), [3, 2]⟩,
    ⟨(some 8), (.pick (.s 5) (.s 7) (.c (.bool false))), none, [2, 4]⟩] false)
  (.cond (.s 8)
   (.region [
     ⟨(some 9), (.mv (.s 0)), none, []⟩,
     ⟨(some 10), (.bin .sub (.s 9) (.c (.int .u8 32))), none, [0]⟩,
     ⟨(some 0), (.mv (.s 10)), none, [1, 0, 1]⟩] false)
   .skip))
  (.seq (.region [
    ⟨(some 11), (.mv (.s 0)), none, []⟩,
    ⟨(some 12), (.call (.c (.fn 63 [])) [(.c (.str [48, 49, 50, 51, 52, 53, 54, 55, 56, 57, 65, 66, 67, 68, 69, 70])), (.s 11)]), none, [0]⟩,
    ⟨(some 2), (.mv (.s 12)), none, [1, 1, 0, 1]⟩] false)
  .ret))), false, (some [(Sh.int .u8)]), (some (Sh.int .i64)), false⟩

/-- euphroe/euphroeref01.Digit -/
def k60 : Fun := ⟨1, 32, [0, 2, 3, 12, 22], [(.tmp 2)],
  (.seq (.region [
    ⟨(some 2), (.mv (.c (.int .u8 0))), none, []⟩] false)
  (.seq (.block 0
   (.seq (.region [
     ⟨(some 4), (.mv (.s 0)), none, []⟩,
     ⟨(some 5), (.bin .geq (.s 4) (.c (.int .u8 48))), none, [0]⟩,
     ⟨(some 6), (.mv (.s 5)), none, [1]⟩,
     ⟨(some 7), (.mv (.s 0)), (some (6, true)), [2]⟩,
     ⟨(some 8), (.bin .leq (.s 7) (.c (.int .u8 57))), (some (6, true)), [3, 2]⟩,
     ⟨(some 9), (.pick (.s 6) (.s 8) (.c (.bool false))), none, [2, 4]⟩,
     ⟨(some 3), (.mv (.s 9)), none, [5, 2]⟩] false)
   (.cond (.s 3)
    (.seq (.region [
      ⟨(some 10), (.mv (.s 0)), none, []⟩,
      ⟨(some 11), (.bin .sub (.s 10) (.c (.int .u8 48))), none, [0]⟩,
      ⟨(some 2), (.mv (.s 11)), none, [1, 0, 1]⟩] false)
    .ret)
    (.seq (.region [
      ⟨(some 13), (.mv (.s 0)), none, []⟩,
      ⟨(some 14), (.bin .geq (.s 13) (.c (.int .u8 97))), none, [0]⟩,
      ⟨(some 15), (.mv (.s 14)), none, [1]⟩,
      ⟨(some 16), (.mv (.s 0)), (some (15, true)), [2]⟩,
      ⟨(some 17), (.bin .leq (.s 16) (.c (.int .u8 102))), (some (15, true)), [3, 2]⟩,
      ⟨(some 18), (.pick (.s 15) (.s 17) (.c (.bool false))), none, [2, 4]⟩,
      ⟨(some 12), (.mv (.s 18)), none, [5, 2]⟩] false)
    (.cond (.s 12)
     (.seq (.region [
       ⟨(some 19), (.mv (.s 0)), none, []⟩,
       ⟨(some 20), (.bin .sub (.s 19) (.c (.int .u8 97))), none, [0]⟩,
       ⟨(some 21), (.bin .add (.s 20) (.c (.int .u8 10))), none, [1]⟩,
       ⟨(some 2), (.mv (.s 21)), none, [2, 0, 1, 2]⟩] false)
     .ret)
     (.seq (.region [
       ⟨(some 23), (.mv (.s 0)), none, []⟩,
       ⟨(some 24), (.bin .geq (.s 23) (.c (.int .u8 65))), none, [0]⟩,
       ⟨(some 25), (.mv (.s 24)), none, [1]⟩,
       ⟨(some 26), (.mv (.s 0)), (some (25, true)), [2]⟩,
       ⟨(some 27), (.bin .leq (.s 26) (.c (.int .u8 70))), (some (25, true)), [3, 2]⟩,
       ⟨(some 28), (.pick (.s 25) (.s 27) (.c (.bool false))), none, [2, 4]⟩,
       ⟨(some 22), (.mv (.s 28)), none, [5, 2]⟩] false)
     (.cond (.s 22)
      (.seq (.region [
        ⟨(some 29), (.mv (.s 0)), none, []⟩,
        ⟨(some 30), (.bin .sub (.s 29) (.c (.int .u8 65))), none, [0]⟩,
        ⟨(some 31), (.bin .add (.s 30) (.c (.int .u8 10))), none, [1]⟩,
        ⟨(some 2), (.mv (.s 31)), none, [2, 0, 1, 2]⟩] false)
      .ret)
      .skip)))))))
  (.seq (.region [
    ⟨(some 2), (.mv (.c (.int .u8 16))), none, []⟩] false)
  .ret))), false, (some [(Sh.int .u8)]), (some (Sh.int .u8)), false⟩

/-- strings.IndexByte -/
def k63 : Fun := ⟨2, 8, [0, 1, 4], [(.tmp 4)],
  (.seq (.region [
    ⟨(some 4), (.mv (.c (.int .i64 0))), none, []⟩] false)
  (.seq (.region [
    ⟨(some 5), (.mv (.s 0)), none, []⟩,
    ⟨(some 6), (.mv (.s 1)), none, []⟩,
    ⟨(some 7), (.call (.c (.fn 65 [])) [(.s 5), (.s 6)]), none, [0, 1]⟩,
    ⟨(some 4), (.mv (.s 7)), none, [2, 2, 0, 1, 2]⟩] false)
  .ret)), false, (some [Sh.str, (Sh.int .u8)]), (some (Sh.int .i64)), false⟩

/-- slices.Grow[[]byte,byte] -/
def k64 : Fun := ⟨2, 27, [0, 1, 4, 6, 16], [(.tmp 4)],
  (.seq (.region [
    ⟨(some 4), (.mv (.c .nils)), none, []⟩] false)
  (.seq (.seq (.region [
    ⟨(some 5), (.mv (.s 1)), none, []⟩,
    ⟨(some 6), (.bin .lss (.s 5) (.c (.int .i64 0))), none, [0]⟩] false)
  (.cond (.s 6)
   (.region [
     ⟨(some 7), .bad, none, []⟩,
     ⟨none, .bad, none, [0]⟩] false)
   .skip))
  (.seq (.seq (.region [
    ⟨(some 8), (.mv (.s 1)), none, []⟩,
    ⟨(some 9), (.mv (.s 0)), none, []⟩,
    ⟨(some 10), (.cap (.s 9)), none, [1]⟩,
    ⟨(some 11), (.mv (.s 0)), none, []⟩,
    ⟨(some 12), (.len false (.s 11)), none, [3]⟩,
    ⟨(some 13), (.bin .sub (.s 10) (.s 12)), none, [2, 4]⟩,
    ⟨(some 14), (.bin .sub (.s 8) (.s 13)), none, [0, 5]⟩,
    ⟨(some 1), (.mv (.s 14)), none, [6, 0, 1, 2, 3, 4, 5, 6]⟩] false)
  (.seq (.region [
    ⟨(some 15), (.mv (.s 1)), none, []⟩,
    ⟨(some 16), (.bin .gtr (.s 15) (.c (.int .i64 0))), none, [0]⟩] false)
  (.cond (.s 16)
   (.region [
     ⟨(some 17), (.mv (.s 0)), none, []⟩,
     ⟨(some 18), (.mv (.s 0)), none, []⟩,
     ⟨(some 19), (.cap (.s 18)), none, [1]⟩,
     ⟨(some 20), (.sls 1 (.s 17) none (some (.s 19)) none), none, [0, 2]⟩,
     ⟨(some 21), (.mv (.s 1)), none, []⟩,
     ⟨(some 22), (.apz 1 1 (.ints .u8 [0]) (.s 20) (.s 21)), none, [3, 4]⟩,
     ⟨(some 23), (.mv (.s 0)), none, []⟩,
     ⟨(some 24), (.len false (.s 23)), none, [6]⟩,
     ⟨(some 25), (.sls 1 (.s 22) none (some (.s 24)) none), none, [5, 7]⟩,
     ⟨(some 0), (.mv (.s 25)), none, [8, 5, 0, 1, 2, 3, 4, 5, 6, 7, 8]⟩] false)
   .skip)))
  (.seq (.region [
    ⟨(some 26), (.mv (.s 0)), none, []⟩,
    ⟨(some 4), (.mv (.s 26)), none, [0, 0]⟩] false)
  (.pre ⟨0, [], true, [], [(4, (.ints .u8 []), 1)]⟩ .ret))))), false, none, none, false⟩

/-- internal/stringslite.IndexByte -/
def k65 : Fun := ⟨2, 8, [0, 1, 4], [(.tmp 4)],
  (.seq (.region [
    ⟨(some 4), (.mv (.c (.int .i64 0))), none, []⟩] false)
  (.seq (.region [
    ⟨(some 5), (.mv (.s 0)), none, []⟩,
    ⟨(some 6), (.mv (.s 1)), none, []⟩,
    ⟨(some 7), (.call (.c (.fn 66 [])) [(.s 5), (.s 6)]), none, [0, 1]⟩,
    ⟨(some 4), (.mv (.s 7)), none, [2, 2, 0, 1, 2]⟩] false)
  .ret)), false, (some [Sh.str, (Sh.int .u8)]), (some (Sh.int .i64)), false⟩

def FT : Nat → Option Fun
  | 1 => some k1
  | 15 => some k15
  | 16 => some k16
  | 17 => some k17
  | 18 => some k18
  | 19 => some k19
  | 21 => some k21
  | 23 => some k23
  | 40 => some k40
  | 41 => some k41
  | 42 => some k42
  | 43 => some k43
  | 44 => some k44
  | 45 => some k45
  | 46 => some k46
  | 47 => some k47
  | 48 => some k48
  | 59 => some k59
  | 60 => some k60
  | 63 => some k63
  | 64 => some k64
  | 65 => some k65
  | _ => none
end Go.Proofs.YtjkdflcccoeggaaE
