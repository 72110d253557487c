/- The evaluator's functions. -/
import Derived.Test.YtjkdflcccoeggaaEvXT
namespace Go.Proofs.YtjkdflcccoeggaaE
open Go
set_option linter.unusedVariables false
set_option linter.unusedSimpArgs false

/-- slices.Concat[[]byte,byte] -/
def k1 : Fun := ⟨1, 36, [0, 2, 3, 5, 6, 8, 9, 10, 11, 12, 20, 25, 26, 27, 28], [(.tmp 2)],
  (.seq (.region [
    ⟨(some 2), (.mv (.c .nils)), none, []⟩] false)
  (.seq (.region [
    ⟨(some 3), (.mv (.c (.int .i64 0))), none, []⟩] false)
  (.seq (.seq (.region [
    ⟨(some 9), (.mv (.s 0)), none, []⟩,
    ⟨(some 10), (.len false (.s 9)), none, [0]⟩,
    ⟨(some 11), (.mv (.c (.int .i64 0))), none, []⟩] false)
  (.block 0
   (.loop ⟨0, [], false, [0, 3, 9, 10, 11], []⟩
    (.seq (.region [
      ⟨(some 12), (.bin .lss (.s 11) (.s 10)), none, []⟩] false)
    (.seq (.cond (.s 12)
     .skip
     (.pre ⟨0, [], false, [0, 3], []⟩ (.exit 0)))
    (.seq (.block 1
     (.seq (.region [
       ⟨(some 13), (.iad 1 (.s 9) (.s 11)), none, []⟩,
       ⟨(some 14), (.ldc (.s 13)), none, [0]⟩,
       ⟨(some 5), (.mv (.s 14)), none, [1, 0, 1]⟩] false)
     (.seq (.region [
       ⟨(some 15), (.mv (.s 3)), none, []⟩,
       ⟨(some 16), (.mv (.s 5)), none, []⟩,
       ⟨(some 17), (.len false (.s 16)), none, [1]⟩,
       ⟨(some 18), (.bin .add (.s 15) (.s 17)), none, [0, 2]⟩,
       ⟨(some 3), (.mv (.s 18)), none, [3, 0, 1, 2, 3]⟩] false)
     (.seq (.region [
       ⟨(some 19), (.mv (.s 3)), none, []⟩,
       ⟨(some 20), (.bin .lss (.s 19) (.c (.int .i64 0))), none, [0]⟩] false)
     (.cond (.s 20)
      (.region [
        ⟨(some 21), .bad, none, []⟩,
        ⟨none, .bad, none, [0]⟩] false)
      .skip)))))
    (.region [
      ⟨(some 22), (.bin .add (.s 11) (.c (.int .i64 1))), none, []⟩,
      ⟨(some 11), (.mv (.s 22)), none, [0]⟩] false)))))))
  (.seq (.region [
    ⟨(some 23), (.mv (.s 3)), none, []⟩,
    ⟨(some 24), (.call (.c (.fn 64 [])) [(.c .nils), (.s 23)]), none, [0]⟩,
    ⟨(some 6), (.mv (.s 24)), none, [1, 1, 0, 1]⟩] false)
  (.seq (.seq (.region [
    ⟨(some 25), (.mv (.s 0)), none, []⟩,
    ⟨(some 26), (.len false (.s 25)), none, [0]⟩,
    ⟨(some 27), (.mv (.c (.int .i64 0))), none, []⟩] false)
  (.block 2
   (.loop ⟨1, [], false, [6, 25, 26, 27], []⟩
    (.seq (.region [
      ⟨(some 28), (.bin .lss (.s 27) (.s 26)), none, []⟩] false)
    (.seq (.cond (.s 28)
     .skip
     (.pre ⟨0, [], false, [6], []⟩ (.exit 2)))
    (.seq (.block 3
     (.seq (.region [
       ⟨(some 29), (.iad 1 (.s 25) (.s 27)), none, []⟩,
       ⟨(some 30), (.ldc (.s 29)), none, [0]⟩,
       ⟨(some 8), (.mv (.s 30)), none, [1, 0, 1]⟩] false)
     (.region [
       ⟨(some 31), (.mv (.s 6)), none, []⟩,
       ⟨(some 32), (.mv (.s 8)), none, []⟩,
       ⟨(some 33), (.app 1 1 (.s 31) (.s 32)), none, [0, 1]⟩,
       ⟨(some 6), (.mv (.s 33)), none, [2, 2, 0, 1, 2]⟩] false)))
    (.region [
      ⟨(some 34), (.bin .add (.s 27) (.c (.int .i64 1))), none, []⟩,
      ⟨(some 27), (.mv (.s 34)), none, [0]⟩] false)))))))
  (.seq (.region [
    ⟨(some 35), (.mv (.s 6)), none, []⟩,
    ⟨(some 2), (.mv (.s 35)), none, [0, 0]⟩] false)
  .ret)))))), false, (some [(Sh.sl (Sh.sl (Sh.int .u8)))]), none⟩

/-- euphroe/euphroelaw01.OctsHex -/
def k15 : Fun := ⟨2, 46, [0, 1, 4, 5, 6, 7, 8, 16], [(.tmp 4)],
  (.seq (.region [
    ⟨(some 4), (.mv (.c (.bool false))), none, []⟩] false)
  (.seq (.seq (.region [
    ⟨(some 9), (.mv (.s 0)), none, []⟩,
    ⟨(some 10), (.len false (.s 9)), none, [0]⟩,
    ⟨(some 11), (.bin .gtr (.s 10) (.c (.int .i64 300))), none, [1]⟩,
    ⟨(some 12), (.mv (.s 11)), none, [2]⟩,
    ⟨(some 13), (.mv (.s 1)), (some (12, false)), [3]⟩,
    ⟨(some 14), (.len true (.s 13)), (some (12, false)), [4, 3]⟩,
    ⟨(some 15), (.bin .gtr (.s 14) (.c (.int .i64 300))), (some (12, false)), [5, 3]⟩,
    ⟨(some 16), (.pick (.s 12) (.c (.bool true)) (.s 15)), none, [3, 6]⟩] false)
  (.cond (.s 16)
   (.seq (.region [
     ⟨(some 17), (.call (.c (.fn 18 [])) []), none, []⟩,
     ⟨(some 4), (.mv (.s 17)), none, [0, 0, 0]⟩] false)
   .ret)
   .skip))
  (.seq (.region [
    ⟨(some 19), (.mv (.s 1)), none, []⟩,
    ⟨(some 20), (.call (.c (.fn 40 [])) [(.s 19)]), none, [0]⟩,
    ⟨(some 18), (.mv (.s 20)), none, [1]⟩,
    ⟨(some 21), (.ext (.s 18) 0), none, [2]⟩,
    ⟨(some 22), (.ext (.s 18) 1), none, [2]⟩,
    ⟨(some 5), (.mv (.s 21)), none, [3, 1, 0, 1, 2, 3]⟩,
    ⟨(some 6), (.mv (.s 22)), none, [4, 5, 0, 1, 2, 3, 4, 5]⟩] false)
  (.seq (.region [
    ⟨(some 24), (.mv (.s 1)), none, []⟩,
    ⟨(some 25), (.call (.c (.fn 41 [])) [(.s 24)]), none, [0]⟩,
    ⟨(some 23), (.mv (.s 25)), none, [1]⟩,
    ⟨(some 26), (.ext (.s 23) 0), none, [2]⟩,
    ⟨(some 27), (.ext (.s 23) 1), none, [2]⟩,
    ⟨(some 7), (.mv (.s 26)), none, [3, 1, 0, 1, 2, 3]⟩,
    ⟨(some 8), (.mv (.s 27)), none, [4, 5, 0, 1, 2, 3, 4, 5]⟩] false)
  (.seq (.region [
    ⟨(some 28), (.mv (.s 0)), none, []⟩,
    ⟨(some 29), (.call (.c (.fn 42 [])) [(.s 28)]), none, [0]⟩,
    ⟨(some 30), (.mv (.s 0)), none, []⟩,
    ⟨(some 31), (.call (.c (.fn 43 [])) [(.s 30)]), none, [2, 1]⟩,
    ⟨(some 32), (.bin .eql (.s 29) (.s 31)), none, [1, 3]⟩,
    ⟨(some 33), (.mv (.s 32)), none, [4, 3]⟩,
    ⟨(some 34), (.mv (.s 5)), (some (33, true)), [5]⟩,
    ⟨(some 35), (.mv (.s 7)), (some (33, true)), [5]⟩,
    ⟨(some 36), (.call (.c (.fn 23 [])) [(.s 34), (.s 35)]), (some (33, true)), [6, 7, 5, 5]⟩,
    ⟨(some 37), (.pick (.s 33) (.s 36) (.c (.bool false))), none, [5, 8]⟩,
    ⟨(some 38), (.mv (.s 37)), none, [9, 8]⟩,
    ⟨(some 39), (.mv (.s 6)), (some (38, true)), [10]⟩,
    ⟨(some 40), (.mv (.s 8)), (some (38, true)), [10]⟩,
    ⟨(some 41), (.bin .eql (.s 39) (.s 40)), (some (38, true)), [11, 12, 10]⟩,
    ⟨(some 42), (.pick (.s 38) (.s 41) (.c (.bool false))), none, [10, 13]⟩,
    ⟨(some 43), (.mv (.s 42)), none, [14, 10]⟩,
    ⟨(some 44), (.call (.c (.fn 18 [])) []), (some (43, true)), [15, 15]⟩,
    ⟨(some 45), (.pick (.s 43) (.s 44) (.c (.bool false))), none, [15, 16]⟩,
    ⟨(some 4), (.mv (.s 45)), none, [17, 16, 0, 1, 2, 3, 4, 5, 6, 7, 8, 9, 10, 11, 12, 13, 14, 15, 16, 17]⟩] false)
  .ret))))), false, (some [(Sh.sl (Sh.int .u8)), Sh.str]), (some Sh.bool)⟩

/-- euphroe/euphroelaw01.OctsTurns -/
def k16 : Fun := ⟨2, 81, [0, 1, 4, 5, 6, 7, 8, 9, 17], [(.tmp 4)],
  (.seq (.region [
    ⟨(some 4), (.mv (.c (.bool false))), none, []⟩] false)
  (.seq (.seq (.region [
    ⟨(some 10), (.mv (.s 0)), none, []⟩,
    ⟨(some 11), (.len false (.s 10)), none, [0]⟩,
    ⟨(some 12), (.bin .gtr (.s 11) (.c (.int .i64 300))), none, [1]⟩,
    ⟨(some 13), (.mv (.s 12)), none, [2]⟩,
    ⟨(some 14), (.mv (.s 1)), (some (13, false)), [3]⟩,
    ⟨(some 15), (.len false (.s 14)), (some (13, false)), [4, 3]⟩,
    ⟨(some 16), (.bin .gtr (.s 15) (.c (.int .i64 300))), (some (13, false)), [5, 3]⟩,
    ⟨(some 17), (.pick (.s 13) (.c (.bool true)) (.s 16)), none, [3, 6]⟩] false)
  (.cond (.s 17)
   (.seq (.region [
     ⟨(some 18), (.call (.c (.fn 18 [])) []), none, []⟩,
     ⟨(some 4), (.mv (.s 18)), none, [0, 0, 0]⟩] false)
   .ret)
   .skip))
  (.seq (.region [
    ⟨(some 20), (.mv (.s 0)), none, []⟩,
    ⟨(some 21), (.mv (.s 1)), none, []⟩,
    ⟨(some 22), (.call (.c (.fn 44 [])) [(.s 20), (.s 21)]), none, [0, 1]⟩,
    ⟨(some 19), (.mv (.s 22)), none, [2]⟩,
    ⟨(some 23), (.ext (.s 19) 0), none, [3]⟩,
    ⟨(some 24), (.ext (.s 19) 1), none, [3]⟩,
    ⟨(some 5), (.mv (.s 23)), none, [4, 2, 0, 1, 2, 3, 4]⟩,
    ⟨(some 6), (.mv (.s 24)), none, [5, 6, 0, 1, 2, 3, 4, 5, 6]⟩] false)
  (.seq (.region [
    ⟨(some 26), (.mv (.s 0)), none, []⟩,
    ⟨(some 27), (.mv (.s 1)), none, []⟩,
    ⟨(some 28), (.call (.c (.fn 45 [])) [(.s 26), (.s 27)]), none, [0, 1]⟩,
    ⟨(some 25), (.mv (.s 28)), none, [2]⟩,
    ⟨(some 29), (.ext (.s 25) 0), none, [3]⟩,
    ⟨(some 30), (.ext (.s 25) 1), none, [3]⟩,
    ⟨(some 7), (.mv (.s 29)), none, [4, 2, 0, 1, 2, 3, 4]⟩,
    ⟨(some 8), (.mv (.s 30)), none, [5, 6, 0, 1, 2, 3, 4, 5, 6]⟩] false)
  (.seq (.region [
    ⟨(some 31), (.mv (.s 0)), none, []⟩,
    ⟨(some 32), (.mv (.s 1)), none, []⟩,
    ⟨(some 33), (.bsl 3 1 (.vals [.nils, .nils, .nils]) [(0, 1, (.s 31)), (1, 1, (.c .nils)), (2, 1, (.s 32))]), none, [0, 1]⟩,
    ⟨(some 34), (.call (.c (.fn 46 [])) [(.s 33)]), none, [2]⟩,
    ⟨(some 9), (.mv (.s 34)), none, [3, 3, 0, 1, 2, 3]⟩] false)
  (.seq (.region [
    ⟨(some 35), (.mv (.s 5)), none, []⟩,
    ⟨(some 36), (.mv (.s 7)), none, []⟩,
    ⟨(some 37), (.call (.c (.fn 23 [])) [(.s 35), (.s 36)]), none, [0, 1]⟩,
    ⟨(some 38), (.mv (.s 37)), none, [2, 2]⟩,
    ⟨(some 39), (.mv (.s 6)), (some (38, true)), [3]⟩,
    ⟨(some 40), (.mv (.s 8)), (some (38, true)), [3]⟩,
    ⟨(some 41), (.bin .eql (.s 39) (.s 40)), (some (38, true)), [4, 5, 3]⟩,
    ⟨(some 42), (.pick (.s 38) (.s 41) (.c (.bool false))), none, [3, 6]⟩,
    ⟨(some 43), (.mv (.s 42)), none, [7, 3]⟩,
    ⟨(some 44), (.mv (.s 0)), (some (43, true)), [8]⟩,
    ⟨(some 45), (.mv (.s 1)), (some (43, true)), [8]⟩,
    ⟨(some 46), (.call (.c (.fn 47 [])) [(.s 44), (.s 45)]), (some (43, true)), [9, 10, 8, 8]⟩,
    ⟨(some 47), (.mv (.s 0)), (some (43, true)), [8]⟩,
    ⟨(some 48), (.mv (.s 1)), (some (43, true)), [8]⟩,
    ⟨(some 49), (.call (.c (.fn 23 [])) [(.s 47), (.s 48)]), (some (43, true)), [12, 13, 11, 8]⟩,
    ⟨(some 50), (.eqn .b false (.s 46) (.s 49)), (some (43, true)), [11, 14, 8]⟩,
    ⟨(some 51), (.pick (.s 43) (.s 50) (.c (.bool false))), none, [8, 15]⟩,
    ⟨(some 52), (.mv (.s 51)), none, [16, 14]⟩,
    ⟨(some 53), (.mv (.s 9)), (some (52, true)), [17]⟩,
    ⟨(some 54), (.len false (.s 53)), (some (52, true)), [18, 17]⟩,
    ⟨(some 55), (.mv (.s 0)), (some (52, true)), [17]⟩,
    ⟨(some 56), (.len false (.s 55)), (some (52, true)), [20, 17]⟩,
    ⟨(some 57), (.mv (.s 1)), (some (52, true)), [17]⟩,
    ⟨(some 58), (.len false (.s 57)), (some (52, true)), [22, 17]⟩,
    ⟨(some 59), (.bin .add (.s 56) (.s 58)), (some (52, true)), [21, 23, 17]⟩,
    ⟨(some 60), (.bin .eql (.s 54) (.s 59)), (some (52, true)), [19, 24, 17]⟩,
    ⟨(some 61), (.pick (.s 52) (.s 60) (.c (.bool false))), none, [17, 25]⟩,
    ⟨(some 62), (.mv (.s 61)), none, [26, 17]⟩,
    ⟨(some 63), (.mv (.s 9)), (some (62, true)), [27]⟩,
    ⟨(some 64), (.mv (.s 0)), (some (62, true)), [27]⟩,
    ⟨(some 65), (.len false (.s 64)), (some (62, true)), [29, 27]⟩,
    ⟨(some 66), (.sls 1 (.s 63) none (some (.s 65)) none), (some (62, true)), [28, 30, 27]⟩,
    ⟨(some 67), (.mv (.s 0)), (some (62, true)), [27]⟩,
    ⟨(some 68), (.call (.c (.fn 23 [])) [(.s 66), (.s 67)]), (some (62, true)), [31, 32, 27, 27]⟩,
    ⟨(some 69), (.pick (.s 62) (.s 68) (.c (.bool false))), none, [27, 33]⟩,
    ⟨(some 70), (.mv (.s 69)), none, [34, 33]⟩,
    ⟨(some 71), (.mv (.s 9)), (some (70, true)), [35]⟩,
    ⟨(some 72), (.mv (.s 0)), (some (70, true)), [35]⟩,
    ⟨(some 73), (.len false (.s 72)), (some (70, true)), [37, 35]⟩,
    ⟨(some 74), (.sls 1 (.s 71) (some (.s 73)) none none), (some (70, true)), [36, 38, 35]⟩,
    ⟨(some 75), (.mv (.s 1)), (some (70, true)), [35]⟩,
    ⟨(some 76), (.call (.c (.fn 23 [])) [(.s 74), (.s 75)]), (some (70, true)), [39, 40, 35, 35]⟩,
    ⟨(some 77), (.pick (.s 70) (.s 76) (.c (.bool false))), none, [35, 41]⟩,
    ⟨(some 78), (.mv (.s 77)), none, [42, 41]⟩,
    ⟨(some 79), (.call (.c (.fn 18 [])) []), (some (78, true)), [43, 43]⟩,
    ⟨(some 80), (.pick (.s 78) (.s 79) (.c (.bool false))), none, [43, 44]⟩,
    ⟨(some 4), (.mv (.s 80)), none, [45, 44, 0, 1, 2, 3, 4, 5, 6, 7, 8, 9, 10, 11, 12, 13, 14, 15, 16, 17, 18, 19, 20, 21, 22, 23, 24, 25, 26, 27, 28, 29, 30, 31, 32, 33, 34, 35, 36, 37, 38, 39, 40, 41, 42, 43, 44, 45]⟩] false)
  .ret)))))), false, (some [(Sh.sl (Sh.int .u8)), (Sh.sl (Sh.int .u8))]), (some Sh.bool)⟩

/-- euphroe/euphroelaw01.OctsBack -/
def k17 : Fun := ⟨3, 118, [0, 1, 2, 5, 6, 7, 8, 9, 10, 11, 12, 13, 14, 15, 16, 17, 18, 30, 76], [(.tmp 6)],
  (.seq (.region [
    ⟨(some 5), (.box (.s 2)), none, []⟩,
    ⟨(some 6), (.mv (.c (.bool false))), none, []⟩] false)
  (.seq (.region [
    ⟨(some 19), (.iaa 2 1 (.s 5) (.c (.int .i64 0))), none, []⟩,
    ⟨(some 20), (.ldc (.s 19)), none, [0]⟩,
    ⟨(some 21), (.iaa 2 1 (.s 5) (.c (.int .i64 1))), none, []⟩,
    ⟨(some 22), (.ldc (.s 21)), none, [2]⟩,
    ⟨(some 7), (.mv (.s 20)), none, [1, 0, 1]⟩,
    ⟨(some 8), (.mv (.s 22)), none, [3, 4, 0, 1, 2, 3, 4]⟩] true)
  (.seq (.seq (.region [
    ⟨(some 23), (.mv (.s 7)), none, []⟩,
    ⟨(some 24), (.len false (.s 23)), none, [0]⟩,
    ⟨(some 25), (.bin .gtr (.s 24) (.c (.int .i64 300))), none, [1]⟩,
    ⟨(some 26), (.mv (.s 25)), none, [2]⟩,
    ⟨(some 27), (.mv (.s 8)), (some (26, false)), [3]⟩,
    ⟨(some 28), (.len false (.s 27)), (some (26, false)), [4, 3]⟩,
    ⟨(some 29), (.bin .gtr (.s 28) (.c (.int .i64 300))), (some (26, false)), [5, 3]⟩,
    ⟨(some 30), (.pick (.s 26) (.c (.bool true)) (.s 29)), none, [3, 6]⟩] false)
  (.cond (.s 30)
   (.seq (.region [
     ⟨(some 31), (.call (.c (.fn 18 [])) []), none, []⟩,
     ⟨(some 6), (.mv (.s 31)), none, [0, 0, 0]⟩] false)
   .ret)
   .skip))
  (.seq (.region [
    ⟨(some 33), (.mv (.s 0)), none, []⟩,
    ⟨(some 34), (.mv (.s 1)), none, []⟩,
    ⟨(some 35), (.call (.c (.fn 19 [])) [(.s 33), (.s 34), (.c (.bool true))]), none, [0, 1]⟩,
    ⟨(some 32), (.mv (.s 35)), none, [2]⟩,
    ⟨(some 36), (.ext (.s 32) 0), none, [3]⟩,
    ⟨(some 37), (.ext (.s 32) 1), none, [3]⟩,
    ⟨(some 9), (.mv (.s 36)), none, [4, 2, 0, 1, 2, 3, 4]⟩,
    ⟨(some 10), (.mv (.s 37)), none, [5, 6, 0, 1, 2, 3, 4, 5, 6]⟩] false)
  (.seq (.region [
    ⟨(some 39), (.mv (.s 9)), none, []⟩,
    ⟨(some 40), (.call (.c (.fn 21 [])) [(.s 39), (.c (.bool true))]), none, [0]⟩,
    ⟨(some 38), (.mv (.s 40)), none, [1]⟩,
    ⟨(some 41), (.ext (.s 38) 0), none, [2]⟩,
    ⟨(some 42), (.ext (.s 38) 1), none, [2]⟩,
    ⟨(some 11), (.mv (.s 41)), none, [3, 1, 0, 1, 2, 3]⟩,
    ⟨(some 12), (.mv (.s 42)), none, [4, 5, 0, 1, 2, 3, 4, 5]⟩] false)
  (.seq (.seq (.region [
    ⟨(some 43), (.mv (.s 10)), none, []⟩,
    ⟨(some 44), (.bin .eql (.s 43) (.c (.int .i64 0))), none, [0]⟩,
    ⟨(some 45), (.mv (.s 44)), none, [1]⟩,
    ⟨(some 46), (.mv (.s 12)), (some (45, true)), [2]⟩,
    ⟨(some 47), (.bin .neq (.s 46) (.c (.int .i64 0))), (some (45, true)), [3, 2]⟩,
    ⟨(some 48), (.mv (.s 47)), (some (45, true)), [4, 2, 2]⟩,
    ⟨(some 49), (.mv (.s 1)), (some (48, false)), [5]⟩,
    ⟨(some 50), (.bin .eql (.s 49) (.c (.int .i64 8))), (some (48, false)), [6, 5]⟩,
    ⟨(some 51), (.mv (.s 50)), (some (48, false)), [7, 5, 5]⟩,
    ⟨(some 52), (.mv (.s 11)), (some (51, true)), [8]⟩,
    ⟨(some 53), (.mv (.s 0)), (some (51, true)), [8]⟩,
    ⟨(some 54), (.bin .neq (.s 52) (.s 53)), (some (51, true)), [9, 10, 8]⟩,
    ⟨(some 55), (.pick (.s 51) (.s 54) (.c (.bool false))), (some (48, false)), [8, 11, 5]⟩,
    ⟨(some 56), (.pick (.s 48) (.c (.bool true)) (.s 55)), (some (45, true)), [5, 12, 2]⟩,
    ⟨(some 57), (.mv (.s 56)), (some (45, true)), [13, 8, 2]⟩,
    ⟨(some 58), (.mv (.s 1)), (some (57, false)), [14]⟩,
    ⟨(some 59), (.bin .lss (.s 58) (.c (.int .i64 8))), (some (57, false)), [15, 14]⟩,
    ⟨(some 60), (.mv (.s 59)), (some (57, false)), [16, 14, 14]⟩,
    ⟨(some 61), (.mv (.s 11)), (some (60, true)), [17]⟩,
    ⟨(some 62), (.mv (.s 0)), (some (60, true)), [17]⟩,
    ⟨(some 63), (.mv (.s 1)), (some (60, true)), [17]⟩,
    ⟨(some 64), (.bin .mul (.c (.int .i64 8)) (.s 63)), (some (60, true)), [20, 17]⟩,
    ⟨(some 65), (.bin .shl (.c (.int .u64 1)) (.s 64)), (some (60, true)), [21, 17]⟩,
    ⟨(some 66), (.bin .rem (.s 62) (.s 65)), (some (60, true)), [19, 22, 17]⟩,
    ⟨(some 67), (.bin .neq (.s 61) (.s 66)), (some (60, true)), [18, 23, 17]⟩,
    ⟨(some 68), (.pick (.s 60) (.s 67) (.c (.bool false))), (some (57, false)), [17, 24, 14]⟩,
    ⟨(some 69), (.pick (.s 57) (.c (.bool true)) (.s 68)), (some (45, true)), [14, 25, 2]⟩,
    ⟨(some 70), (.mv (.s 69)), (some (45, true)), [26, 17, 2]⟩,
    ⟨(some 71), (.mv (.s 9)), (some (70, false)), [27]⟩,
    ⟨(some 72), (.len false (.s 71)), (some (70, false)), [28, 27]⟩,
    ⟨(some 73), (.mv (.s 1)), (some (70, false)), [27]⟩,
    ⟨(some 74), (.bin .neq (.s 72) (.s 73)), (some (70, false)), [29, 30, 27]⟩,
    ⟨(some 75), (.pick (.s 70) (.c (.bool true)) (.s 74)), (some (45, true)), [27, 31, 2]⟩,
    ⟨(some 76), (.pick (.s 45) (.s 75) (.c (.bool false))), none, [2, 32]⟩] false)
  (.cond (.s 76)
   (.seq (.region [
     ⟨(some 6), (.mv (.c (.bool false))), none, []⟩] false)
   .ret)
   .skip))
  (.seq (.region [
    ⟨(some 78), (.mv (.s 7)), none, []⟩,
    ⟨(some 79), (.mv (.s 8)), none, []⟩,
    ⟨(some 80), (.call (.c (.fn 44 [])) [(.s 78), (.s 79)]), none, [0, 1]⟩,
    ⟨(some 77), (.mv (.s 80)), none, [2]⟩,
    ⟨(some 81), (.ext (.s 77) 0), none, [3]⟩,
    ⟨(some 82), (.ext (.s 77) 1), none, [3]⟩,
    ⟨(some 13), (.mv (.s 81)), none, [4, 2, 0, 1, 2, 3, 4]⟩,
    ⟨(some 14), (.mv (.s 82)), none, [5, 6, 0, 1, 2, 3, 4, 5, 6]⟩] false)
  (.seq (.region [
    ⟨(some 84), (.mv (.s 13)), none, []⟩,
    ⟨(some 85), (.mv (.s 8)), none, []⟩,
    ⟨(some 86), (.call (.c (.fn 44 [])) [(.s 84), (.s 85)]), none, [0, 1]⟩,
    ⟨(some 83), (.mv (.s 86)), none, [2]⟩,
    ⟨(some 87), (.ext (.s 83) 0), none, [3]⟩,
    ⟨(some 88), (.ext (.s 83) 1), none, [3]⟩,
    ⟨(some 15), (.mv (.s 87)), none, [4, 2, 0, 1, 2, 3, 4]⟩,
    ⟨(some 16), (.mv (.s 88)), none, [5, 6, 0, 1, 2, 3, 4, 5, 6]⟩] false)
  (.seq (.region [
    ⟨(some 90), (.mv (.s 7)), none, []⟩,
    ⟨(some 91), (.call (.c (.fn 42 [])) [(.s 90)]), none, [0]⟩,
    ⟨(some 92), (.call (.c (.fn 40 [])) [(.s 91)]), none, [1, 1]⟩,
    ⟨(some 89), (.mv (.s 92)), none, [2]⟩,
    ⟨(some 93), (.ext (.s 89) 0), none, [3]⟩,
    ⟨(some 94), (.ext (.s 89) 1), none, [3]⟩,
    ⟨(some 17), (.mv (.s 93)), none, [4, 2, 0, 1, 2, 3, 4]⟩,
    ⟨(some 18), (.mv (.s 94)), none, [5, 6, 0, 1, 2, 3, 4, 5, 6]⟩] false)
  (.seq (.region [
    ⟨(some 95), (.mv (.s 14)), none, []⟩,
    ⟨(some 96), (.bin .neq (.s 95) (.c (.int .i64 0))), none, [0]⟩,
    ⟨(some 97), (.mv (.s 96)), none, [1]⟩,
    ⟨(some 98), (.mv (.s 16)), (some (97, false)), [2]⟩,
    ⟨(some 99), (.bin .eql (.s 98) (.c (.int .i64 0))), (some (97, false)), [3, 2]⟩,
    ⟨(some 100), (.mv (.s 99)), (some (97, false)), [4, 2, 2]⟩,
    ⟨(some 101), (.mv (.s 15)), (some (100, true)), [5]⟩,
    ⟨(some 102), (.mv (.s 7)), (some (100, true)), [5]⟩,
    ⟨(some 103), (.call (.c (.fn 23 [])) [(.s 101), (.s 102)]), (some (100, true)), [6, 7, 5, 5]⟩,
    ⟨(some 104), (.pick (.s 100) (.s 103) (.c (.bool false))), (some (97, false)), [5, 8, 2]⟩,
    ⟨(some 105), (.pick (.s 97) (.c (.bool true)) (.s 104)), none, [2, 9]⟩,
    ⟨(some 106), (.mv (.s 105)), none, [10, 8]⟩,
    ⟨(some 107), (.mv (.s 17)), (some (106, true)), [11]⟩,
    ⟨(some 108), (.mv (.s 7)), (some (106, true)), [11]⟩,
    ⟨(some 109), (.call (.c (.fn 23 [])) [(.s 107), (.s 108)]), (some (106, true)), [12, 13, 11, 11]⟩,
    ⟨(some 110), (.pick (.s 106) (.s 109) (.c (.bool false))), none, [11, 14]⟩,
    ⟨(some 111), (.mv (.s 110)), none, [15, 14]⟩,
    ⟨(some 112), (.mv (.s 18)), (some (111, true)), [16]⟩,
    ⟨(some 113), (.bin .eql (.s 112) (.c (.int .i64 0))), (some (111, true)), [17, 16]⟩,
    ⟨(some 114), (.pick (.s 111) (.s 113) (.c (.bool false))), none, [16, 18]⟩,
    ⟨(some 115), (.mv (.s 114)), none, [19, 16]⟩,
    ⟨(some 116), (.call (.c (.fn 18 [])) []), (some (115, true)), [20, 20]⟩,
    ⟨(some 117), (.pick (.s 115) (.s 116) (.c (.bool false))), none, [20, 21]⟩,
    ⟨(some 6), (.mv (.s 117)), none, [22, 21, 0, 1, 2, 3, 4, 5, 6, 7, 8, 9, 10, 11, 12, 13, 14, 15, 16, 17, 18, 19, 20, 21, 22]⟩] false)
  .ret)))))))))), false, (some [(Sh.int .u64), (Sh.int .i64), (Sh.st (Sh.pr (Sh.sl (Sh.int .u8)) (Sh.sl (Sh.int .u8))))]), (some Sh.bool)⟩

/-- euphroe/euphroelaw01.alive -/
def k18 : Fun := ⟨0, 54, [0, 1, 2, 3, 4, 5, 6], [(.tmp 0)],
  (.seq (.region [
    ⟨(some 0), (.mv (.c (.bool false))), none, []⟩] false)
  (.seq (.region [
    ⟨(some 8), (.call (.c (.fn 19 [])) [(.c (.int .u64 258)), (.c (.int .i64 2)), (.c (.bool false))]), none, []⟩,
    ⟨(some 7), (.mv (.s 8)), none, [0]⟩,
    ⟨(some 9), (.ext (.s 7) 0), none, [1]⟩,
    ⟨(some 10), (.ext (.s 7) 1), none, [1]⟩,
    ⟨(some 1), (.mv (.s 9)), none, [2, 0, 0, 1, 2]⟩,
    ⟨(some 2), (.mv (.s 10)), none, [3, 4, 0, 1, 2, 3, 4]⟩] false)
  (.seq (.region [
    ⟨(some 12), (.call (.c (.fn 19 [])) [(.c (.int .u64 258)), (.c (.int .i64 2)), (.c (.bool true))]), none, []⟩,
    ⟨(some 11), (.mv (.s 12)), none, [0]⟩,
    ⟨(some 13), (.ext (.s 11) 0), none, [1]⟩,
    ⟨(some 14), (.ext (.s 11) 1), none, [1]⟩,
    ⟨(some 3), (.mv (.s 13)), none, [2, 0, 0, 1, 2]⟩,
    ⟨(some 4), (.mv (.s 14)), none, [3, 4, 0, 1, 2, 3, 4]⟩] false)
  (.seq (.region [
    ⟨(some 16), (.mv (.s 1)), none, []⟩,
    ⟨(some 17), (.call (.c (.fn 21 [])) [(.s 16), (.c (.bool false))]), none, [0]⟩,
    ⟨(some 15), (.mv (.s 17)), none, [1]⟩,
    ⟨(some 18), (.ext (.s 15) 0), none, [2]⟩,
    ⟨(some 19), (.ext (.s 15) 1), none, [2]⟩,
    ⟨(some 5), (.mv (.s 18)), none, [3, 1, 0, 1, 2, 3]⟩,
    ⟨(some 6), (.mv (.s 19)), none, [4, 5, 0, 1, 2, 3, 4, 5]⟩] false)
  (.seq (.region [
    ⟨(some 20), (.mv (.s 1)), none, []⟩,
    ⟨(some 21), (.b2s (.s 20)), none, [0]⟩,
    ⟨(some 22), (.bin .eql (.s 21) (.c (.str [1, 2]))), none, [1]⟩,
    ⟨(some 23), (.mv (.s 22)), none, [2]⟩,
    ⟨(some 24), (.mv (.s 2)), (some (23, true)), [3]⟩,
    ⟨(some 25), (.bin .eql (.s 24) (.c (.int .i64 0))), (some (23, true)), [4, 3]⟩,
    ⟨(some 26), (.pick (.s 23) (.s 25) (.c (.bool false))), none, [3, 5]⟩,
    ⟨(some 27), (.mv (.s 26)), none, [6, 3]⟩,
    ⟨(some 28), (.mv (.s 3)), (some (27, true)), [7]⟩,
    ⟨(some 29), (.b2s (.s 28)), (some (27, true)), [8, 7]⟩,
    ⟨(some 30), (.bin .eql (.s 29) (.c (.str [2, 1]))), (some (27, true)), [9, 7]⟩,
    ⟨(some 31), (.pick (.s 27) (.s 30) (.c (.bool false))), none, [7, 10]⟩,
    ⟨(some 32), (.mv (.s 31)), none, [11, 7]⟩,
    ⟨(some 33), (.mv (.s 4)), (some (32, true)), [12]⟩,
    ⟨(some 34), (.bin .eql (.s 33) (.c (.int .i64 0))), (some (32, true)), [13, 12]⟩,
    ⟨(some 35), (.pick (.s 32) (.s 34) (.c (.bool false))), none, [12, 14]⟩,
    ⟨(some 36), (.mv (.s 35)), none, [15, 12]⟩,
    ⟨(some 37), (.mv (.s 5)), (some (36, true)), [16]⟩,
    ⟨(some 38), (.bin .eql (.s 37) (.c (.int .u64 258))), (some (36, true)), [17, 16]⟩,
    ⟨(some 39), (.pick (.s 36) (.s 38) (.c (.bool false))), none, [16, 18]⟩,
    ⟨(some 40), (.mv (.s 39)), none, [19, 16]⟩,
    ⟨(some 41), (.mv (.s 6)), (some (40, true)), [20]⟩,
    ⟨(some 42), (.bin .eql (.s 41) (.c (.int .i64 0))), (some (40, true)), [21, 20]⟩,
    ⟨(some 43), (.pick (.s 40) (.s 42) (.c (.bool false))), none, [20, 22]⟩,
    ⟨(some 44), (.mv (.s 43)), none, [23, 20]⟩,
    ⟨(some 45), (.bsl 1 1 (.ints .u8 [0]) [(0, 1, (.c (.int .u8 171)))]), (some (44, true)), [24]⟩,
    ⟨(some 46), (.call (.c (.fn 42 [])) [(.s 45)]), (some (44, true)), [25, 24, 24]⟩,
    ⟨(some 47), (.bin .eql (.s 46) (.c (.str [65, 66]))), (some (44, true)), [26, 24]⟩,
    ⟨(some 48), (.pick (.s 44) (.s 47) (.c (.bool false))), none, [24, 27]⟩,
    ⟨(some 49), (.mv (.s 48)), none, [28, 26]⟩,
    ⟨(some 50), (.mv (.s 1)), (some (49, true)), [29]⟩,
    ⟨(some 51), (.mv (.s 1)), (some (49, true)), [29]⟩,
    ⟨(some 52), (.call (.c (.fn 47 [])) [(.s 50), (.s 51)]), (some (49, true)), [30, 31, 29, 29]⟩,
    ⟨(some 53), (.pick (.s 49) (.s 52) (.c (.bool false))), none, [29, 32]⟩,
    ⟨(some 0), (.mv (.s 53)), none, [33, 32, 0, 1, 2, 3, 4, 5, 6, 7, 8, 9, 10, 11, 12, 13, 14, 15, 16, 17, 18, 19, 20, 21, 22, 23, 24, 25, 26, 27, 28, 29, 30, 31, 32, 33]⟩] false)
  .ret))))), false, (some []), (some Sh.bool)⟩

/-- euphroe/octs.Put -/
def k19 : Fun := ⟨3, 37, [0, 1, 2, 6, 7, 8, 9, 15, 19, 20, 21, 33], [(.tmp 6), (.tmp 7)],
  (.seq (.region [
    ⟨(some 6), (.mv (.c .nils)), none, []⟩,
    ⟨(some 7), (.mv (.c (.int .i64 0))), none, [0]⟩] false)
  (.seq (.seq (.region [
    ⟨(some 10), (.mv (.s 1)), none, []⟩,
    ⟨(some 11), (.bin .lss (.s 10) (.c (.int .i64 1))), none, [0]⟩,
    ⟨(some 12), (.mv (.s 11)), none, [1]⟩,
    ⟨(some 13), (.mv (.s 1)), (some (12, false)), [2]⟩,
    ⟨(some 14), (.bin .gtr (.s 13) (.c (.int .i64 8))), (some (12, false)), [3, 2]⟩,
    ⟨(some 15), (.pick (.s 12) (.c (.bool true)) (.s 14)), none, [2, 4]⟩] false)
  (.cond (.s 15)
   (.seq (.region [
     ⟨(some 6), (.mv (.c .nils)), none, []⟩,
     ⟨(some 7), (.mv (.c (.int .i64 1))), none, [0, 0]⟩] false)
   .ret)
   .skip))
  (.seq (.region [
    ⟨(some 16), (.mv (.s 1)), none, []⟩,
    ⟨(some 17), (.mks (.ints .u8 [0]) 1 1 (.s 16) (.s 16)), none, [0, 0]⟩,
    ⟨(some 8), (.mv (.s 17)), none, [1, 0, 1]⟩] false)
  (.seq (.seq (.region [
    ⟨(some 18), (.mv (.s 8)), none, []⟩,
    ⟨(some 19), (.len false (.s 18)), none, [0]⟩,
    ⟨(some 20), (.mv (.c (.int .i64 0))), none, []⟩] false)
  (.block 0
   (.loop ⟨0, [], false, [0, 2, 8, 19, 20], []⟩
    (.seq (.region [
      ⟨(some 21), (.bin .lss (.s 20) (.s 19)), none, []⟩] false)
    (.seq (.cond (.s 21)
     .skip
     (.pre ⟨0, [], false, [2, 8], []⟩ (.exit 0)))
    (.seq (.block 1
     (.seq (.region [
       ⟨(some 22), (.mv (.s 20)), none, []⟩,
       ⟨(some 9), (.mv (.s 22)), none, [0, 0]⟩] false)
     (.region [
       ⟨(some 23), (.mv (.s 8)), none, []⟩,
       ⟨(some 24), (.mv (.s 9)), none, []⟩,
       ⟨(some 25), (.mv (.s 0)), none, []⟩,
       ⟨(some 26), (.mv (.s 9)), none, []⟩,
       ⟨(some 27), (.bin .mul (.c (.int .i64 8)) (.s 26)), none, [3]⟩,
       ⟨(some 28), (.bin .shr (.s 25) (.s 27)), none, [2, 4]⟩,
       ⟨(some 29), (.cvi .u8 (.s 28)), none, [5]⟩,
       ⟨(some 30), (.iad 1 (.s 23) (.s 24)), none, [0, 1, 0, 1, 2, 3, 4, 5, 6]⟩,
       ⟨none, (.stc 1 (.s 30) (.s 29)), none, [7, 6, 0, 1, 2, 3, 4, 5, 6]⟩] false)))
    (.region [
      ⟨(some 31), (.bin .add (.s 20) (.c (.int .i64 1))), none, []⟩,
      ⟨(some 20), (.mv (.s 31)), none, [0]⟩] false)))))))
  (.seq (.seq (.region [
    ⟨(some 32), (.mv (.s 2)), none, []⟩,
    ⟨(some 33), (.un .not (.s 32)), none, [0]⟩] false)
  (.cond (.s 33)
   (.region [
     ⟨(some 34), (.mv (.s 8)), none, []⟩,
     ⟨(some 35), (.call (.c (.fn 48 [])) [(.s 34)]), none, [0]⟩] false)
   .skip))
  (.seq (.region [
    ⟨(some 36), (.mv (.s 8)), none, []⟩,
    ⟨(some 6), (.mv (.s 36)), none, [0, 0]⟩,
    ⟨(some 7), (.mv (.c (.int .i64 0))), none, [1, 0, 1]⟩] false)
  .ret)))))), false, (some [(Sh.int .u64), (Sh.int .i64), Sh.bool]), (some (Sh.tu (Sh.pr (Sh.sl (Sh.int .u8)) (Sh.int .i64))))⟩

/-- euphroe/octs.Get -/
def k21 : Fun := ⟨2, 39, [0, 1, 4, 5, 6, 7, 8, 16, 17, 18, 19, 20, 24], [(.tmp 4), (.tmp 5)],
  (.seq (.region [
    ⟨(some 4), (.mv (.c (.int .u64 0))), none, []⟩,
    ⟨(some 5), (.mv (.c (.int .i64 0))), none, [0]⟩] false)
  (.seq (.seq (.region [
    ⟨(some 9), (.mv (.s 0)), none, []⟩,
    ⟨(some 10), (.len false (.s 9)), none, [0]⟩,
    ⟨(some 11), (.bin .lss (.s 10) (.c (.int .i64 1))), none, [1]⟩,
    ⟨(some 12), (.mv (.s 11)), none, [2]⟩,
    ⟨(some 13), (.mv (.s 0)), (some (12, false)), [3]⟩,
    ⟨(some 14), (.len false (.s 13)), (some (12, false)), [4, 3]⟩,
    ⟨(some 15), (.bin .gtr (.s 14) (.c (.int .i64 8))), (some (12, false)), [5, 3]⟩,
    ⟨(some 16), (.pick (.s 12) (.c (.bool true)) (.s 15)), none, [3, 6]⟩] false)
  (.cond (.s 16)
   (.seq (.region [
     ⟨(some 4), (.mv (.c (.int .u64 0))), none, []⟩,
     ⟨(some 5), (.mv (.c (.int .i64 1))), none, [0, 0]⟩] false)
   .ret)
   .skip))
  (.seq (.region [
    ⟨(some 6), (.mv (.c (.int .u64 0))), none, []⟩] false)
  (.seq (.seq (.region [
    ⟨(some 17), (.mv (.s 0)), none, []⟩,
    ⟨(some 18), (.len false (.s 17)), none, [0]⟩,
    ⟨(some 19), (.mv (.c (.int .i64 0))), none, []⟩] false)
  (.block 0
   (.loop ⟨0, [], false, [1, 6, 17, 18, 19], []⟩
    (.seq (.region [
      ⟨(some 20), (.bin .lss (.s 19) (.s 18)), none, []⟩] false)
    (.seq (.cond (.s 20)
     .skip
     (.pre ⟨0, [], false, [6], []⟩ (.exit 0)))
    (.seq (.block 1
     (.seq (.region [
       ⟨(some 21), (.mv (.s 19)), none, []⟩,
       ⟨(some 22), (.iad 1 (.s 17) (.s 19)), none, []⟩,
       ⟨(some 23), (.ldc (.s 22)), none, [1]⟩,
       ⟨(some 7), (.mv (.s 21)), none, [0, 0, 1, 2]⟩,
       ⟨(some 8), (.mv (.s 23)), none, [2, 3, 0, 1, 2, 3]⟩] false)
     (.seq (.region [
       ⟨(some 24), (.mv (.s 1)), none, []⟩] false)
     (.cond (.s 24)
      (.region [
        ⟨(some 25), (.mv (.s 6)), none, []⟩,
        ⟨(some 26), (.mv (.s 8)), none, []⟩,
        ⟨(some 27), (.cvi .u64 (.s 26)), none, [1]⟩,
        ⟨(some 28), (.mv (.s 7)), none, []⟩,
        ⟨(some 29), (.bin .mul (.c (.int .i64 8)) (.s 28)), none, [3]⟩,
        ⟨(some 30), (.bin .shl (.s 27) (.s 29)), none, [2, 4]⟩,
        ⟨(some 31), (.bin .or (.s 25) (.s 30)), none, [0, 5]⟩,
        ⟨(some 6), (.mv (.s 31)), none, [6, 0, 1, 2, 3, 4, 5, 6]⟩] false)
      (.region [
        ⟨(some 32), (.mv (.s 6)), none, []⟩,
        ⟨(some 33), (.bin .shl (.s 32) (.c (.int .u64 8))), none, [0]⟩,
        ⟨(some 34), (.mv (.s 8)), none, []⟩,
        ⟨(some 35), (.cvi .u64 (.s 34)), none, [2]⟩,
        ⟨(some 36), (.bin .or (.s 33) (.s 35)), none, [1, 3]⟩,
        ⟨(some 6), (.mv (.s 36)), none, [4, 0, 1, 2, 3, 4]⟩] false)))))
    (.region [
      ⟨(some 37), (.bin .add (.s 19) (.c (.int .i64 1))), none, []⟩,
      ⟨(some 19), (.mv (.s 37)), none, [0]⟩] false)))))))
  (.seq (.region [
    ⟨(some 38), (.mv (.s 6)), none, []⟩,
    ⟨(some 4), (.mv (.s 38)), none, [0, 0]⟩,
    ⟨(some 5), (.mv (.c (.int .i64 0))), none, [1, 0, 1]⟩] false)
  .ret))))), false, (some [(Sh.sl (Sh.int .u8)), Sh.bool]), (some (Sh.tu (Sh.pr (Sh.int .u64) (Sh.int .i64))))⟩

/-- euphroe/euphroeref01.Same -/
def k23 : Fun := ⟨2, 26, [0, 1, 4, 5, 10, 14, 25], [(.tmp 4)],
  (.seq (.region [
    ⟨(some 4), (.mv (.c (.bool false))), none, []⟩] false)
  (.seq (.seq (.region [
    ⟨(some 6), (.mv (.s 0)), none, []⟩,
    ⟨(some 7), (.len false (.s 6)), none, [0]⟩,
    ⟨(some 8), (.mv (.s 1)), none, []⟩,
    ⟨(some 9), (.len false (.s 8)), none, [2]⟩,
    ⟨(some 10), (.bin .neq (.s 7) (.s 9)), none, [1, 3]⟩] false)
  (.cond (.s 10)
   (.seq (.region [
     ⟨(some 4), (.mv (.c (.bool false))), none, []⟩] false)
   .ret)
   .skip))
  (.seq (.seq (.region [
    ⟨(some 5), (.mv (.c (.int .i64 0))), none, []⟩] false)
  (.block 0
   (.loop ⟨0, [], false, [0, 1, 5], []⟩
    (.seq (.seq (.region [
      ⟨(some 11), (.mv (.s 5)), none, []⟩,
      ⟨(some 12), (.mv (.s 0)), none, []⟩,
      ⟨(some 13), (.len false (.s 12)), none, [1]⟩,
      ⟨(some 14), (.bin .lss (.s 11) (.s 13)), none, [0, 2]⟩] false)
    (.cond (.s 14)
     .skip
     (.pre ⟨0, [], false, [], []⟩ (.exit 0))))
    (.seq (.block 1
     (.seq (.region [
       ⟨(some 17), (.mv (.s 0)), none, []⟩,
       ⟨(some 18), (.mv (.s 5)), none, []⟩,
       ⟨(some 19), (.iad 1 (.s 17) (.s 18)), none, [0, 1]⟩,
       ⟨(some 20), (.ldc (.s 19)), none, [2]⟩,
       ⟨(some 21), (.mv (.s 1)), none, []⟩,
       ⟨(some 22), (.mv (.s 5)), none, []⟩,
       ⟨(some 23), (.iad 1 (.s 21) (.s 22)), none, [4, 5]⟩,
       ⟨(some 24), (.ldc (.s 23)), none, [6]⟩,
       ⟨(some 25), (.bin .neq (.s 20) (.s 24)), none, [3, 7]⟩] true)
     (.cond (.s 25)
      (.seq (.region [
        ⟨(some 4), (.mv (.c (.bool false))), none, []⟩] false)
      .ret)
      .skip)))
    (.region [
      ⟨(some 15), (.mv (.s 5)), none, []⟩,
      ⟨(some 16), (.bin .add (.s 15) (.c (.int .i64 1))), none, [0]⟩,
      ⟨(some 5), (.mv (.s 16)), none, [1, 0, 1]⟩] false))))))
  (.seq (.region [
    ⟨(some 4), (.mv (.c (.bool true))), none, []⟩] false)
  .ret)))), false, (some [(Sh.sl (Sh.int .u8)), (Sh.sl (Sh.int .u8))]), (some Sh.bool)⟩

/-- euphroe/octs.Unhex -/
def k40 : Fun := ⟨1, 30, [0, 2, 3, 4, 5, 9, 11, 22], [(.tmp 2), (.tmp 3)],
  (.seq (.region [
    ⟨(some 2), (.mv (.c .nils)), none, []⟩,
    ⟨(some 3), (.mv (.c (.int .i64 0))), none, [0]⟩] false)
  (.scope
   (.seq (.seq (.region [
     ⟨(some 6), (.mv (.s 0)), none, []⟩,
     ⟨(some 7), (.len true (.s 6)), none, [0]⟩,
     ⟨(some 8), (.bin .rem (.s 7) (.c (.int .i64 2))), none, [1]⟩,
     ⟨(some 9), (.bin .neq (.s 8) (.c (.int .i64 0))), none, [2]⟩] false)
   (.cond (.s 9)
    (.seq (.region [
      ⟨(some 2), (.mv (.c .nils)), none, []⟩,
      ⟨(some 3), (.mv (.c (.int .i64 3))), none, [0, 0]⟩] false)
    .ret)
    .skip))
   (.seq (.region [
     ⟨(some 4), (.mv (.c .nils)), none, []⟩] false)
   (.seq (.label 0)
   (.seq (.seq (.region [
     ⟨(some 10), (.mv (.s 0)), none, []⟩,
     ⟨(some 11), (.bin .eql (.s 10) (.c (.str []))), none, [0]⟩] false)
   (.cond (.s 11)
    (.seq (.region [
      ⟨(some 12), (.mv (.s 4)), none, []⟩,
      ⟨(some 2), (.mv (.s 12)), none, [0, 0]⟩,
      ⟨(some 3), (.mv (.c (.int .i64 0))), none, [1, 0, 1]⟩] false)
    .ret)
    .skip))
   (.seq (.region [
     ⟨(some 13), (.mv (.s 0)), none, []⟩,
     ⟨(some 14), (.ixs (.s 13) (.c (.int .i64 0))), none, [0]⟩,
     ⟨(some 15), (.call (.c (.fn 59 [])) [(.s 14)]), none, [1]⟩,
     ⟨(some 16), (.bin .shl (.s 15) (.c (.int .u64 4))), none, [2]⟩,
     ⟨(some 17), (.mv (.s 0)), none, []⟩,
     ⟨(some 18), (.ixs (.s 17) (.c (.int .i64 1))), none, [4]⟩,
     ⟨(some 19), (.call (.c (.fn 59 [])) [(.s 18)]), none, [5, 2]⟩,
     ⟨(some 20), (.bin .or (.s 16) (.s 19)), none, [3, 6]⟩,
     ⟨(some 5), (.mv (.s 20)), none, [7, 6, 0, 1, 2, 3, 4, 5, 6, 7]⟩] true)
   (.seq (.seq (.region [
     ⟨(some 21), (.mv (.s 5)), none, []⟩,
     ⟨(some 22), (.bin .lss (.s 21) (.c (.int .i64 0))), none, [0]⟩] false)
   (.cond (.s 22)
    (.seq (.region [
      ⟨(some 2), (.mv (.c .nils)), none, []⟩,
      ⟨(some 3), (.mv (.c (.int .i64 3))), none, [0, 0]⟩] false)
    .ret)
    .skip))
   (.seq (.region [
     ⟨(some 23), (.mv (.s 4)), none, []⟩,
     ⟨(some 24), (.mv (.s 5)), none, []⟩,
     ⟨(some 25), (.cvi .u8 (.s 24)), none, [1]⟩,
     ⟨(some 26), (.bsl 1 1 (.ints .u8 [0]) [(0, 1, (.s 25))]), none, [2]⟩,
     ⟨(some 27), (.app 1 1 (.s 23) (.s 26)), none, [0, 3]⟩,
     ⟨(some 4), (.mv (.s 27)), none, [4, 4, 0, 1, 2, 3, 4]⟩] false)
   (.seq (.region [
     ⟨(some 28), (.mv (.s 0)), none, []⟩,
     ⟨(some 29), (.ssl (.s 28) (some (.c (.int .i64 2))) none), none, [0]⟩,
     ⟨(some 0), (.mv (.s 29)), none, [1, 0, 1]⟩] false)
   (.goto 0))))))))))), false, (some [Sh.str]), (some (Sh.tu (Sh.pr (Sh.sl (Sh.int .u8)) (Sh.int .i64))))⟩

/-- euphroe/euphroeref01.Unhex -/
def k41 : Fun := ⟨1, 41, [0, 2, 3, 4, 5, 6, 7, 11, 15, 32], [(.tmp 2), (.tmp 3)],
  (.seq (.region [
    ⟨(some 2), (.mv (.c .nils)), none, []⟩,
    ⟨(some 3), (.mv (.c (.int .i64 0))), none, [0]⟩] false)
  (.seq (.seq (.region [
    ⟨(some 8), (.mv (.s 0)), none, []⟩,
    ⟨(some 9), (.len true (.s 8)), none, [0]⟩,
    ⟨(some 10), (.bin .rem (.s 9) (.c (.int .i64 2))), none, [1]⟩,
    ⟨(some 11), (.bin .neq (.s 10) (.c (.int .i64 0))), none, [2]⟩] false)
  (.cond (.s 11)
   (.seq (.region [
     ⟨(some 2), (.mv (.c .nils)), none, []⟩,
     ⟨(some 3), (.mv (.c (.int .i64 3))), none, [0, 0]⟩] false)
   .ret)
   .skip))
  (.seq (.region [
    ⟨(some 4), (.mv (.c .nils)), none, []⟩] false)
  (.seq (.seq (.region [
    ⟨(some 5), (.mv (.c (.int .i64 0))), none, []⟩] false)
  (.block 0
   (.loop ⟨0, [], false, [0, 4, 5], [(4, (.ints .u8 []), 1)]⟩
    (.seq (.seq (.region [
      ⟨(some 12), (.mv (.s 5)), none, []⟩,
      ⟨(some 13), (.mv (.s 0)), none, []⟩,
      ⟨(some 14), (.len true (.s 13)), none, [1]⟩,
      ⟨(some 15), (.bin .lss (.s 12) (.s 14)), none, [0, 2]⟩] false)
    (.cond (.s 15)
     .skip
     (.pre ⟨0, [], false, [4], []⟩ (.exit 0))))
    (.seq (.block 1
     (.seq (.region [
       ⟨(some 18), (.mv (.s 0)), none, []⟩,
       ⟨(some 19), (.mv (.s 5)), none, []⟩,
       ⟨(some 20), (.ixs (.s 18) (.s 19)), none, [0, 1]⟩,
       ⟨(some 21), (.call (.c (.fn 60 [])) [(.s 20)]), none, [2]⟩,
       ⟨(some 22), (.mv (.s 0)), none, []⟩,
       ⟨(some 23), (.mv (.s 5)), none, []⟩,
       ⟨(some 24), (.bin .add (.s 23) (.c (.int .i64 1))), none, [5]⟩,
       ⟨(some 25), (.ixs (.s 22) (.s 24)), none, [4, 6]⟩,
       ⟨(some 26), (.call (.c (.fn 60 [])) [(.s 25)]), none, [7, 3]⟩,
       ⟨(some 6), (.mv (.s 21)), none, [3, 8, 0, 1, 2, 3]⟩,
       ⟨(some 7), (.mv (.s 26)), none, [8, 9, 0, 1, 2, 3, 4, 5, 6, 7, 8, 9]⟩] true)
     (.seq (.seq (.region [
       ⟨(some 27), (.mv (.s 6)), none, []⟩,
       ⟨(some 28), (.bin .gtr (.s 27) (.c (.int .u8 15))), none, [0]⟩,
       ⟨(some 29), (.mv (.s 28)), none, [1]⟩,
       ⟨(some 30), (.mv (.s 7)), (some (29, false)), [2]⟩,
       ⟨(some 31), (.bin .gtr (.s 30) (.c (.int .u8 15))), (some (29, false)), [3, 2]⟩,
       ⟨(some 32), (.pick (.s 29) (.c (.bool true)) (.s 31)), none, [2, 4]⟩] false)
     (.cond (.s 32)
      (.seq (.region [
        ⟨(some 2), (.mv (.c .nils)), none, []⟩,
        ⟨(some 3), (.mv (.c (.int .i64 3))), none, [0, 0]⟩] false)
      .ret)
      .skip))
     (.region [
       ⟨(some 33), (.mv (.s 4)), none, []⟩,
       ⟨(some 34), (.mv (.s 6)), none, []⟩,
       ⟨(some 35), (.bin .mul (.c (.int .u8 16)) (.s 34)), none, [1]⟩,
       ⟨(some 36), (.mv (.s 7)), none, []⟩,
       ⟨(some 37), (.bin .add (.s 35) (.s 36)), none, [2, 3]⟩,
       ⟨(some 38), (.bsl 1 1 (.ints .u8 [0]) [(0, 1, (.s 37))]), none, [4]⟩,
       ⟨(some 39), (.app 1 1 (.s 33) (.s 38)), none, [0, 5]⟩,
       ⟨(some 4), (.mv (.s 39)), none, [6, 6, 0, 1, 2, 3, 4, 5, 6]⟩] false))))
    (.region [
      ⟨(some 16), (.mv (.s 5)), none, []⟩,
      ⟨(some 17), (.bin .add (.s 16) (.c (.int .i64 2))), none, [0]⟩,
      ⟨(some 5), (.mv (.s 17)), none, [1, 0, 1]⟩] false))))))
  (.seq (.region [
    ⟨(some 40), (.mv (.s 4)), none, []⟩,
    ⟨(some 2), (.mv (.s 40)), none, [0, 0]⟩,
    ⟨(some 3), (.mv (.c (.int .i64 0))), none, [1, 0, 1]⟩] false)
  .ret))))), false, (some [Sh.str]), (some (Sh.tu (Sh.pr (Sh.sl (Sh.int .u8)) (Sh.int .i64))))⟩

/-- euphroe/octs.Hex -/
def k42 : Fun := ⟨1, 28, [0, 2, 3, 5, 10, 11, 12, 13], [(.tmp 2)],
  (.seq (.region [
    ⟨(some 2), (.mv (.c (.str []))), none, []⟩] false)
  (.seq (.region [
    ⟨(some 6), (.mv (.s 0)), none, []⟩,
    ⟨(some 7), (.len false (.s 6)), none, [0]⟩,
    ⟨(some 8), (.bin .mul (.c (.int .i64 2)) (.s 7)), none, [1]⟩,
    ⟨(some 9), (.mks (.ints .u8 [0]) 1 1 (.c (.int .i64 0)) (.s 8)), none, [2]⟩,
    ⟨(some 3), (.mv (.s 9)), none, [3, 0, 1, 2, 3]⟩] false)
  (.seq (.seq (.region [
    ⟨(some 10), (.mv (.s 0)), none, []⟩,
    ⟨(some 11), (.len false (.s 10)), none, [0]⟩,
    ⟨(some 12), (.mv (.c (.int .i64 0))), none, []⟩] false)
  (.block 0
   (.loop ⟨0, [], false, [3, 10, 11, 12], [(3, (.imm []), 1)]⟩
    (.seq (.region [
      ⟨(some 13), (.bin .lss (.s 12) (.s 11)), none, []⟩] false)
    (.seq (.cond (.s 13)
     .skip
     (.pre ⟨0, [], false, [3], []⟩ (.exit 0)))
    (.seq (.block 1
     (.seq (.region [
       ⟨(some 14), (.iad 1 (.s 10) (.s 12)), none, []⟩,
       ⟨(some 15), (.ldc (.s 14)), none, [0]⟩,
       ⟨(some 5), (.mv (.s 15)), none, [1, 0, 1]⟩] false)
     (.region [
       ⟨(some 16), (.mv (.s 3)), none, []⟩,
       ⟨(some 17), (.mv (.s 5)), none, []⟩,
       ⟨(some 18), (.bin .shr (.s 17) (.c (.int .u64 4))), none, [1]⟩,
       ⟨(some 19), (.ixs (.c (.str [48, 49, 50, 51, 52, 53, 54, 55, 56, 57, 65, 66, 67, 68, 69, 70])) (.s 18)), none, [2]⟩,
       ⟨(some 20), (.mv (.s 5)), none, []⟩,
       ⟨(some 21), (.bin .and (.s 20) (.c (.int .u8 15))), none, [4]⟩,
       ⟨(some 22), (.ixs (.c (.str [48, 49, 50, 51, 52, 53, 54, 55, 56, 57, 65, 66, 67, 68, 69, 70])) (.s 21)), none, [5]⟩,
       ⟨(some 23), (.bsl 2 1 (.ints .u8 [0, 0]) [(0, 1, (.s 19)), (1, 1, (.s 22))]), none, [3, 6]⟩,
       ⟨(some 24), (.app 1 1 (.s 16) (.s 23)), none, [0, 7]⟩,
       ⟨(some 3), (.mv (.s 24)), none, [8, 8, 0, 1, 2, 3, 4, 5, 6, 7, 8]⟩] true)))
    (.region [
      ⟨(some 25), (.bin .add (.s 12) (.c (.int .i64 1))), none, []⟩,
      ⟨(some 12), (.mv (.s 25)), none, [0]⟩] false)))))))
  (.seq (.region [
    ⟨(some 26), (.mv (.s 3)), none, []⟩,
    ⟨(some 27), (.b2s (.s 26)), none, [0]⟩,
    ⟨(some 2), (.mv (.s 27)), none, [1, 0, 1]⟩] false)
  .ret)))), false, (some [(Sh.sl (Sh.int .u8))]), (some Sh.str)⟩

/-- euphroe/euphroeref01.Hex -/
def k43 : Fun := ⟨1, 40, [0, 2, 3, 4, 5, 6, 7, 11], [(.tmp 2)],
  (.seq (.region [
    ⟨(some 2), (.mv (.c (.str []))), none, []⟩] false)
  (.seq (.region [
    ⟨(some 3), (.mv (.c (.str [48, 49, 50, 51, 52, 53, 54, 55, 56, 57, 65, 66, 67, 68, 69, 70]))), none, []⟩] false)
  (.seq (.region [
    ⟨(some 4), (.mv (.c (.str []))), none, []⟩] false)
  (.seq (.seq (.region [
    ⟨(some 5), (.mv (.c (.int .i64 0))), none, []⟩] false)
  (.block 0
   (.loop ⟨0, [], false, [0, 3, 4, 5], []⟩
    (.seq (.seq (.region [
      ⟨(some 8), (.mv (.s 5)), none, []⟩,
      ⟨(some 9), (.mv (.s 0)), none, []⟩,
      ⟨(some 10), (.len false (.s 9)), none, [1]⟩,
      ⟨(some 11), (.bin .lss (.s 8) (.s 10)), none, [0, 2]⟩] false)
    (.cond (.s 11)
     .skip
     (.pre ⟨0, [], false, [4], []⟩ (.exit 0))))
    (.seq (.block 1
     (.seq (.region [
       ⟨(some 14), (.mv (.s 0)), none, []⟩,
       ⟨(some 15), (.mv (.s 5)), none, []⟩,
       ⟨(some 16), (.iad 1 (.s 14) (.s 15)), none, [0, 1]⟩,
       ⟨(some 17), (.ldc (.s 16)), none, [2]⟩,
       ⟨(some 18), (.bin .quo (.s 17) (.c (.int .u8 16))), none, [3]⟩,
       ⟨(some 19), (.cvi .i64 (.s 18)), none, [4]⟩,
       ⟨(some 20), (.mv (.s 0)), none, []⟩,
       ⟨(some 21), (.mv (.s 5)), none, []⟩,
       ⟨(some 22), (.iad 1 (.s 20) (.s 21)), none, [6, 7]⟩,
       ⟨(some 23), (.ldc (.s 22)), none, [8]⟩,
       ⟨(some 24), (.bin .rem (.s 23) (.c (.int .u8 16))), none, [9]⟩,
       ⟨(some 25), (.cvi .i64 (.s 24)), none, [10]⟩,
       ⟨(some 6), (.mv (.s 19)), none, [5, 0, 1, 2, 3, 4, 5]⟩,
       ⟨(some 7), (.mv (.s 25)), none, [11, 12, 0, 1, 2, 3, 4, 5, 6, 7, 8, 9, 10, 11, 12]⟩] true)
     (.region [
       ⟨(some 26), (.mv (.s 4)), none, []⟩,
       ⟨(some 27), (.mv (.s 3)), none, []⟩,
       ⟨(some 28), (.mv (.s 6)), none, []⟩,
       ⟨(some 29), (.mv (.s 6)), none, []⟩,
       ⟨(some 30), (.bin .add (.s 29) (.c (.int .i64 1))), none, [3]⟩,
       ⟨(some 31), (.ssl (.s 27) (some (.s 28)) (some (.s 30))), none, [1, 2, 4]⟩,
       ⟨(some 32), (.mv (.s 3)), none, []⟩,
       ⟨(some 33), (.mv (.s 7)), none, []⟩,
       ⟨(some 34), (.mv (.s 7)), none, []⟩,
       ⟨(some 35), (.bin .add (.s 34) (.c (.int .i64 1))), none, [8]⟩,
       ⟨(some 36), (.ssl (.s 32) (some (.s 33)) (some (.s 35))), none, [6, 7, 9]⟩,
       ⟨(some 37), (.bin .add (.s 31) (.s 36)), none, [5, 10]⟩,
       ⟨(some 38), (.bin .add (.s 26) (.s 37)), none, [0, 11]⟩,
       ⟨(some 4), (.mv (.s 38)), none, [12, 0, 1, 2, 3, 4, 5, 6, 7, 8, 9, 10, 11, 12]⟩] true)))
    (.region [
      ⟨(some 12), (.mv (.s 5)), none, []⟩,
      ⟨(some 13), (.bin .add (.s 12) (.c (.int .i64 1))), none, [0]⟩,
      ⟨(some 5), (.mv (.s 13)), none, [1, 0, 1]⟩] false))))))
  (.seq (.region [
    ⟨(some 39), (.mv (.s 4)), none, []⟩,
    ⟨(some 2), (.mv (.s 39)), none, [0, 0]⟩] false)
  .ret))))), false, (some [(Sh.sl (Sh.int .u8))]), (some Sh.str)⟩

/-- euphroe/octs.Xor -/
def k44 : Fun := ⟨2, 32, [0, 1, 4, 5, 6, 7, 8, 13, 16, 17, 18, 19], [(.tmp 4), (.tmp 5)],
  (.seq (.region [
    ⟨(some 4), (.mv (.c .nils)), none, []⟩,
    ⟨(some 5), (.mv (.c (.int .i64 0))), none, [0]⟩] false)
  (.seq (.seq (.region [
    ⟨(some 9), (.mv (.s 0)), none, []⟩,
    ⟨(some 10), (.len false (.s 9)), none, [0]⟩,
    ⟨(some 11), (.mv (.s 1)), none, []⟩,
    ⟨(some 12), (.len false (.s 11)), none, [2]⟩,
    ⟨(some 13), (.bin .neq (.s 10) (.s 12)), none, [1, 3]⟩] false)
  (.cond (.s 13)
   (.seq (.region [
     ⟨(some 4), (.mv (.c .nils)), none, []⟩,
     ⟨(some 5), (.mv (.c (.int .i64 1))), none, [0, 0]⟩] false)
   .ret)
   .skip))
  (.seq (.region [
    ⟨(some 14), (.mv (.s 0)), none, []⟩,
    ⟨(some 15), (.call (.c (.fn 61 [])) [(.s 14)]), none, [0]⟩,
    ⟨(some 6), (.mv (.s 15)), none, [1, 1, 0, 1]⟩] false)
  (.seq (.seq (.region [
    ⟨(some 16), (.mv (.s 1)), none, []⟩,
    ⟨(some 17), (.len false (.s 16)), none, [0]⟩,
    ⟨(some 18), (.mv (.c (.int .i64 0))), none, []⟩] false)
  (.block 0
   (.loop ⟨0, [], false, [6, 16, 17, 18], []⟩
    (.seq (.region [
      ⟨(some 19), (.bin .lss (.s 18) (.s 17)), none, []⟩] false)
    (.seq (.cond (.s 19)
     .skip
     (.pre ⟨0, [], false, [6], []⟩ (.exit 0)))
    (.seq (.block 1
     (.seq (.region [
       ⟨(some 20), (.mv (.s 18)), none, []⟩,
       ⟨(some 21), (.iad 1 (.s 16) (.s 18)), none, []⟩,
       ⟨(some 22), (.ldc (.s 21)), none, [1]⟩,
       ⟨(some 7), (.mv (.s 20)), none, [0, 0, 1, 2]⟩,
       ⟨(some 8), (.mv (.s 22)), none, [2, 3, 0, 1, 2, 3]⟩] false)
     (.region [
       ⟨(some 23), (.mv (.s 6)), none, []⟩,
       ⟨(some 24), (.mv (.s 7)), none, []⟩,
       ⟨(some 25), (.iad 1 (.s 23) (.s 24)), none, [0, 1]⟩,
       ⟨(some 26), (.ldc (.s 25)), none, [2]⟩,
       ⟨(some 27), (.mv (.s 8)), none, []⟩,
       ⟨(some 28), (.bin .xor (.s 26) (.s 27)), none, [3, 4]⟩,
       ⟨(some 29), (.iad 1 (.s 23) (.s 24)), none, [0, 1, 0, 1, 2, 3, 4, 5]⟩,
       ⟨none, (.stc 1 (.s 29) (.s 28)), none, [6, 5, 0, 1, 2, 3, 4, 5]⟩] false)))
    (.region [
      ⟨(some 30), (.bin .add (.s 18) (.c (.int .i64 1))), none, []⟩,
      ⟨(some 18), (.mv (.s 30)), none, [0]⟩] false)))))))
  (.seq (.region [
    ⟨(some 31), (.mv (.s 6)), none, []⟩,
    ⟨(some 4), (.mv (.s 31)), none, [0, 0]⟩,
    ⟨(some 5), (.mv (.c (.int .i64 0))), none, [1, 0, 1]⟩] false)
  .ret))))), false, (some [(Sh.sl (Sh.int .u8)), (Sh.sl (Sh.int .u8))]), (some (Sh.tu (Sh.pr (Sh.sl (Sh.int .u8)) (Sh.int .i64))))⟩

/-- euphroe/euphroeref01.Xor -/
def k45 : Fun := ⟨2, 35, [0, 1, 4, 5, 6, 7, 12, 19], [(.tmp 4), (.tmp 5)],
  (.seq (.region [
    ⟨(some 4), (.mv (.c .nils)), none, []⟩,
    ⟨(some 5), (.mv (.c (.int .i64 0))), none, [0]⟩] false)
  (.seq (.seq (.region [
    ⟨(some 8), (.mv (.s 0)), none, []⟩,
    ⟨(some 9), (.len false (.s 8)), none, [0]⟩,
    ⟨(some 10), (.mv (.s 1)), none, []⟩,
    ⟨(some 11), (.len false (.s 10)), none, [2]⟩,
    ⟨(some 12), (.bin .neq (.s 9) (.s 11)), none, [1, 3]⟩] false)
  (.cond (.s 12)
   (.seq (.region [
     ⟨(some 4), (.mv (.c .nils)), none, []⟩,
     ⟨(some 5), (.mv (.c (.int .i64 1))), none, [0, 0]⟩] false)
   .ret)
   .skip))
  (.seq (.region [
    ⟨(some 13), (.mv (.s 0)), none, []⟩,
    ⟨(some 14), (.len false (.s 13)), none, [0]⟩,
    ⟨(some 15), (.mks (.ints .u8 [0]) 1 1 (.s 14) (.s 14)), none, [1, 1]⟩,
    ⟨(some 6), (.mv (.s 15)), none, [2, 0, 1, 2]⟩] false)
  (.seq (.seq (.region [
    ⟨(some 7), (.mv (.c (.int .i64 0))), none, []⟩] false)
  (.block 0
   (.loop ⟨0, [], false, [0, 1, 6, 7], []⟩
    (.seq (.seq (.region [
      ⟨(some 16), (.mv (.s 7)), none, []⟩,
      ⟨(some 17), (.mv (.s 0)), none, []⟩,
      ⟨(some 18), (.len false (.s 17)), none, [1]⟩,
      ⟨(some 19), (.bin .lss (.s 16) (.s 18)), none, [0, 2]⟩] false)
    (.cond (.s 19)
     .skip
     (.pre ⟨0, [], false, [6], []⟩ (.exit 0))))
    (.seq (.block 1
     (.region [
       ⟨(some 22), (.mv (.s 6)), none, []⟩,
       ⟨(some 23), (.mv (.s 7)), none, []⟩,
       ⟨(some 24), (.mv (.s 0)), none, []⟩,
       ⟨(some 25), (.mv (.s 7)), none, []⟩,
       ⟨(some 26), (.iad 1 (.s 24) (.s 25)), none, [2, 3]⟩,
       ⟨(some 27), (.ldc (.s 26)), none, [4]⟩,
       ⟨(some 28), (.mv (.s 1)), none, []⟩,
       ⟨(some 29), (.mv (.s 7)), none, []⟩,
       ⟨(some 30), (.iad 1 (.s 28) (.s 29)), none, [6, 7]⟩,
       ⟨(some 31), (.ldc (.s 30)), none, [8]⟩,
       ⟨(some 32), (.bin .xor (.s 27) (.s 31)), none, [5, 9]⟩,
       ⟨(some 33), (.iad 1 (.s 22) (.s 23)), none, [0, 1, 0, 1, 2, 3, 4, 5, 6, 7, 8, 9, 10]⟩,
       ⟨none, (.stc 1 (.s 33) (.s 32)), none, [11, 10, 0, 1, 2, 3, 4, 5, 6, 7, 8, 9, 10]⟩] true))
    (.region [
      ⟨(some 20), (.mv (.s 7)), none, []⟩,
      ⟨(some 21), (.bin .add (.s 20) (.c (.int .i64 1))), none, [0]⟩,
      ⟨(some 7), (.mv (.s 21)), none, [1, 0, 1]⟩] false))))))
  (.seq (.region [
    ⟨(some 34), (.mv (.s 6)), none, []⟩,
    ⟨(some 4), (.mv (.s 34)), none, [0, 0]⟩,
    ⟨(some 5), (.mv (.c (.int .i64 0))), none, [1, 0, 1]⟩] false)
  .ret))))), false, (some [(Sh.sl (Sh.int .u8)), (Sh.sl (Sh.int .u8))]), (some (Sh.tu (Sh.pr (Sh.sl (Sh.int .u8)) (Sh.int .i64))))⟩

/-- euphroe/octs.Join -/
def k46 : Fun := ⟨1, 5, [0, 2], [(.tmp 2)],
  (.seq (.region [
    ⟨(some 2), (.mv (.c .nils)), none, []⟩] false)
  (.seq (.region [
    ⟨(some 3), (.mv (.s 0)), none, []⟩,
    ⟨(some 4), (.call (.c (.fn 1 [])) [(.s 3)]), none, [0]⟩,
    ⟨(some 2), (.mv (.s 4)), none, [1, 1, 0, 1]⟩] false)
  .ret)), false, (some [(Sh.sl (Sh.sl (Sh.int .u8)))]), none⟩

/-- euphroe/octs.Same -/
def k47 : Fun := ⟨2, 31, [0, 1, 4, 5, 6, 7, 12, 13, 14, 15, 16], [(.tmp 4)],
  (.seq (.region [
    ⟨(some 4), (.mv (.c (.bool false))), none, []⟩] false)
  (.seq (.seq (.region [
    ⟨(some 8), (.mv (.s 0)), none, []⟩,
    ⟨(some 9), (.len false (.s 8)), none, [0]⟩,
    ⟨(some 10), (.mv (.s 1)), none, []⟩,
    ⟨(some 11), (.len false (.s 10)), none, [2]⟩,
    ⟨(some 12), (.bin .neq (.s 9) (.s 11)), none, [1, 3]⟩] false)
  (.cond (.s 12)
   (.seq (.region [
     ⟨(some 4), (.mv (.c (.bool false))), none, []⟩] false)
   .ret)
   .skip))
  (.seq (.region [
    ⟨(some 5), (.mv (.c (.int .u8 0))), none, []⟩] false)
  (.seq (.seq (.region [
    ⟨(some 13), (.mv (.s 0)), none, []⟩,
    ⟨(some 14), (.len false (.s 13)), none, [0]⟩,
    ⟨(some 15), (.mv (.c (.int .i64 0))), none, []⟩] false)
  (.block 0
   (.loop ⟨0, [], false, [1, 5, 13, 14, 15], []⟩
    (.seq (.region [
      ⟨(some 16), (.bin .lss (.s 15) (.s 14)), none, []⟩] false)
    (.seq (.cond (.s 16)
     .skip
     (.pre ⟨0, [], false, [5], []⟩ (.exit 0)))
    (.seq (.block 1
     (.seq (.region [
       ⟨(some 17), (.mv (.s 15)), none, []⟩,
       ⟨(some 18), (.iad 1 (.s 13) (.s 15)), none, []⟩,
       ⟨(some 19), (.ldc (.s 18)), none, [1]⟩,
       ⟨(some 6), (.mv (.s 17)), none, [0, 0, 1, 2]⟩,
       ⟨(some 7), (.mv (.s 19)), none, [2, 3, 0, 1, 2, 3]⟩] false)
     (.region [
       ⟨(some 20), (.mv (.s 5)), none, []⟩,
       ⟨(some 21), (.mv (.s 7)), none, []⟩,
       ⟨(some 22), (.mv (.s 1)), none, []⟩,
       ⟨(some 23), (.mv (.s 6)), none, []⟩,
       ⟨(some 24), (.iad 1 (.s 22) (.s 23)), none, [2, 3]⟩,
       ⟨(some 25), (.ldc (.s 24)), none, [4]⟩,
       ⟨(some 26), (.bin .xor (.s 21) (.s 25)), none, [1, 5]⟩,
       ⟨(some 27), (.bin .or (.s 20) (.s 26)), none, [0, 6]⟩,
       ⟨(some 5), (.mv (.s 27)), none, [7, 0, 1, 2, 3, 4, 5, 6, 7]⟩] false)))
    (.region [
      ⟨(some 28), (.bin .add (.s 15) (.c (.int .i64 1))), none, []⟩,
      ⟨(some 15), (.mv (.s 28)), none, [0]⟩] false)))))))
  (.seq (.region [
    ⟨(some 29), (.mv (.s 5)), none, []⟩,
    ⟨(some 30), (.bin .eql (.s 29) (.c (.int .u8 0))), none, [0]⟩,
    ⟨(some 4), (.mv (.s 30)), none, [1, 0, 1]⟩] false)
  .ret))))), false, (some [(Sh.sl (Sh.int .u8)), (Sh.sl (Sh.int .u8))]), (some Sh.bool)⟩

/-- slices.Reverse[[]byte,byte] -/
def k48 : Fun := ⟨1, 28, [0, 2, 3, 9], [],
  (.seq (.region [
    ⟨(some 4), (.mv (.s 0)), none, []⟩,
    ⟨(some 5), (.len false (.s 4)), none, [0]⟩,
    ⟨(some 6), (.bin .sub (.s 5) (.c (.int .i64 1))), none, [1]⟩,
    ⟨(some 2), (.mv (.c (.int .i64 0))), none, []⟩,
    ⟨(some 3), (.mv (.s 6)), none, [2, 3, 0, 1, 2, 3]⟩] false)
  (.block 0
   (.loop ⟨0, [], false, [0, 2, 3], []⟩
    (.seq (.seq (.region [
      ⟨(some 7), (.mv (.s 2)), none, []⟩,
      ⟨(some 8), (.mv (.s 3)), none, []⟩,
      ⟨(some 9), (.bin .lss (.s 7) (.s 8)), none, [0, 1]⟩] false)
    (.cond (.s 9)
     .skip
     (.pre ⟨0, [], false, [], []⟩ (.exit 0))))
    (.seq (.block 1
     (.region [
       ⟨(some 14), (.mv (.s 0)), none, []⟩,
       ⟨(some 15), (.mv (.s 2)), none, []⟩,
       ⟨(some 16), (.mv (.s 0)), none, []⟩,
       ⟨(some 17), (.mv (.s 3)), none, []⟩,
       ⟨(some 18), (.mv (.s 0)), none, []⟩,
       ⟨(some 19), (.mv (.s 3)), none, []⟩,
       ⟨(some 20), (.iad 1 (.s 18) (.s 19)), none, [4, 5]⟩,
       ⟨(some 21), (.ldc (.s 20)), none, [6]⟩,
       ⟨(some 22), (.mv (.s 0)), none, []⟩,
       ⟨(some 23), (.mv (.s 2)), none, []⟩,
       ⟨(some 24), (.iad 1 (.s 22) (.s 23)), none, [8, 9]⟩,
       ⟨(some 25), (.ldc (.s 24)), none, [10]⟩,
       ⟨(some 26), (.iad 1 (.s 14) (.s 15)), none, [0, 1, 0, 1, 4, 5, 6, 7, 11]⟩,
       ⟨none, (.stc 1 (.s 26) (.s 21)), none, [12, 7, 0, 1, 4, 5, 6, 7, 11]⟩,
       ⟨(some 27), (.iad 1 (.s 16) (.s 17)), none, [2, 3, 0, 1, 2, 3, 4, 5, 6, 7, 8, 9, 10, 11, 12, 13]⟩,
       ⟨none, (.stc 1 (.s 27) (.s 25)), none, [14, 11, 13, 0, 1, 2, 3, 4, 5, 6, 7, 8, 9, 10, 11, 12, 13]⟩] true))
    (.region [
      ⟨(some 10), (.mv (.s 2)), none, []⟩,
      ⟨(some 11), (.bin .add (.s 10) (.c (.int .i64 1))), none, [0]⟩,
      ⟨(some 12), (.mv (.s 3)), none, []⟩,
      ⟨(some 13), (.bin .sub (.s 12) (.c (.int .i64 1))), none, [2]⟩,
      ⟨(some 2), (.mv (.s 11)), none, [1, 0, 1]⟩,
      ⟨(some 3), (.mv (.s 13)), none, [3, 4, 0, 1, 2, 3, 4]⟩] false)))))), true, none, none⟩

/-- euphroe/euphroeref01.Big -/
def k50 : Fun := ⟨2, 24, [0, 1, 4, 5, 6, 12], [(.tmp 4)],
  (.seq (.region [
    ⟨(some 4), (.mv (.c .nils)), none, []⟩] false)
  (.seq (.region [
    ⟨(some 7), (.mv (.s 1)), none, []⟩,
    ⟨(some 8), (.mks (.ints .u8 [0]) 1 1 (.s 7) (.s 7)), none, [0, 0]⟩,
    ⟨(some 5), (.mv (.s 8)), none, [1, 0, 1]⟩] false)
  (.seq (.seq (.region [
    ⟨(some 9), (.mv (.s 1)), none, []⟩,
    ⟨(some 10), (.bin .sub (.s 9) (.c (.int .i64 1))), none, [0]⟩,
    ⟨(some 6), (.mv (.s 10)), none, [1, 0, 1]⟩] false)
  (.block 0
   (.loop ⟨0, [], false, [0, 5, 6], []⟩
    (.seq (.seq (.region [
      ⟨(some 11), (.mv (.s 6)), none, []⟩,
      ⟨(some 12), (.bin .geq (.s 11) (.c (.int .i64 0))), none, [0]⟩] false)
    (.cond (.s 12)
     .skip
     (.pre ⟨0, [], false, [5], []⟩ (.exit 0))))
    (.seq (.block 1
     (.seq (.region [
       ⟨(some 15), (.mv (.s 5)), none, []⟩,
       ⟨(some 16), (.mv (.s 6)), none, []⟩,
       ⟨(some 17), (.mv (.s 0)), none, []⟩,
       ⟨(some 18), (.bin .rem (.s 17) (.c (.int .u64 256))), none, [2]⟩,
       ⟨(some 19), (.cvi .u8 (.s 18)), none, [3]⟩,
       ⟨(some 20), (.iad 1 (.s 15) (.s 16)), none, [0, 1, 0, 1, 2, 3, 4]⟩,
       ⟨none, (.stc 1 (.s 20) (.s 19)), none, [5, 4, 0, 1, 2, 3, 4]⟩] false)
     (.region [
       ⟨(some 21), (.mv (.s 0)), none, []⟩,
       ⟨(some 22), (.bin .quo (.s 21) (.c (.int .u64 256))), none, [0]⟩,
       ⟨(some 0), (.mv (.s 22)), none, [1, 0, 1]⟩] false)))
    (.region [
      ⟨(some 13), (.mv (.s 6)), none, []⟩,
      ⟨(some 14), (.bin .sub (.s 13) (.c (.int .i64 1))), none, [0]⟩,
      ⟨(some 6), (.mv (.s 14)), none, [1, 0, 1]⟩] false))))))
  (.seq (.region [
    ⟨(some 23), (.mv (.s 5)), none, []⟩,
    ⟨(some 4), (.mv (.s 23)), none, [0, 0]⟩] false)
  .ret)))), false, (some [(Sh.int .u64), (Sh.int .i64)]), (some (Sh.sl (Sh.int .u8)))⟩

/-- euphroe/euphroeref01.Num -/
def k51 : Fun := ⟨1, 20, [0, 2, 3, 4, 8], [(.tmp 2)],
  (.seq (.region [
    ⟨(some 2), (.mv (.c (.int .u64 0))), none, []⟩] false)
  (.seq (.region [
    ⟨(some 3), (.mv (.c (.int .u64 0))), none, []⟩] false)
  (.seq (.seq (.region [
    ⟨(some 4), (.mv (.c (.int .i64 0))), none, []⟩] false)
  (.block 0
   (.loop ⟨0, [], false, [0, 3, 4], []⟩
    (.seq (.seq (.region [
      ⟨(some 5), (.mv (.s 4)), none, []⟩,
      ⟨(some 6), (.mv (.s 0)), none, []⟩,
      ⟨(some 7), (.len false (.s 6)), none, [1]⟩,
      ⟨(some 8), (.bin .lss (.s 5) (.s 7)), none, [0, 2]⟩] false)
    (.cond (.s 8)
     .skip
     (.pre ⟨0, [], false, [3], []⟩ (.exit 0))))
    (.seq (.block 1
     (.region [
       ⟨(some 11), (.mv (.s 3)), none, []⟩,
       ⟨(some 12), (.bin .mul (.s 11) (.c (.int .u64 256))), none, [0]⟩,
       ⟨(some 13), (.mv (.s 0)), none, []⟩,
       ⟨(some 14), (.mv (.s 4)), none, []⟩,
       ⟨(some 15), (.iad 1 (.s 13) (.s 14)), none, [2, 3]⟩,
       ⟨(some 16), (.ldc (.s 15)), none, [4]⟩,
       ⟨(some 17), (.cvi .u64 (.s 16)), none, [5]⟩,
       ⟨(some 18), (.bin .add (.s 12) (.s 17)), none, [1, 6]⟩,
       ⟨(some 3), (.mv (.s 18)), none, [7, 0, 1, 2, 3, 4, 5, 6, 7]⟩] false))
    (.region [
      ⟨(some 9), (.mv (.s 4)), none, []⟩,
      ⟨(some 10), (.bin .add (.s 9) (.c (.int .i64 1))), none, [0]⟩,
      ⟨(some 4), (.mv (.s 10)), none, [1, 0, 1]⟩] false))))))
  (.seq (.region [
    ⟨(some 19), (.mv (.s 3)), none, []⟩,
    ⟨(some 2), (.mv (.s 19)), none, [0, 0]⟩] false)
  .ret)))), false, (some [(Sh.sl (Sh.int .u8))]), (some (Sh.int .u64))⟩

/-- euphroe/octs.digit -/
def k59 : Fun := ⟨1, 13, [0, 2, 8], [(.tmp 2)],
  (.seq (.region [
    ⟨(some 2), (.mv (.c (.int .i64 0))), none, []⟩] false)
  (.seq (.seq (.region [
    ⟨(some 3), (.mv (.s 0)), none, []⟩,
    ⟨(some 4), (.bin .geq (.s 3) (.c (.int .u8 97))), none, [0]⟩,
    ⟨(some 5), (.mv (.s 4)), none, [1]⟩,
    ⟨(some 6), (.mv (.s 0)), (some (5, true)), [2]⟩,
    ⟨(some 7), (.bin .leq (.s 6) (.c (.int .u8 102))), (some (5, true)), [3, 2]⟩,
    ⟨(some 8), (.pick (.s 5) (.s 7) (.c (.bool false))), none, [2, 4]⟩] false)
  (.cond (.s 8)
   (.region [
     ⟨(some 9), (.mv (.s 0)), none, []⟩,
     ⟨(some 10), (.bin .sub (.s 9) (.c (.int .u8 32))), none, [0]⟩,
     ⟨(some 0), (.mv (.s 10)), none, [1, 0, 1]⟩] false)
   .skip))
  (.seq (.region [
    ⟨(some 11), (.mv (.s 0)), none, []⟩,
    ⟨(some 12), (.call (.c (.fn 63 [])) [(.c (.str [48, 49, 50, 51, 52, 53, 54, 55, 56, 57, 65, 66, 67, 68, 69, 70])), (.s 11)]), none, [0]⟩,
    ⟨(some 2), (.mv (.s 12)), none, [1, 1, 0, 1]⟩] false)
  .ret))), false, (some [(Sh.int .u8)]), (some (Sh.int .i64))⟩

/-- euphroe/euphroeref01.Digit -/
def k60 : Fun := ⟨1, 32, [0, 2, 3, 12, 22], [(.tmp 2)],
  (.seq (.region [
    ⟨(some 2), (.mv (.c (.int .u8 0))), none, []⟩] false)
  (.seq (.block 0
   (.seq (.region [
     ⟨(some 4), (.mv (.s 0)), none, []⟩,
     ⟨(some 5), (.bin .geq (.s 4) (.c (.int .u8 48))), none, [0]⟩,
     ⟨(some 6), (.mv (.s 5)), none, [1]⟩,
     ⟨(some 7), (.mv (.s 0)), (some (6, true)), [2]⟩,
     ⟨(some 8), (.bin .leq (.s 7) (.c (.int .u8 57))), (some (6, true)), [3, 2]⟩,
     ⟨(some 9), (.pick (.s 6) (.s 8) (.c (.bool false))), none, [2, 4]⟩,
     ⟨(some 3), (.mv (.s 9)), none, [5, 2]⟩] false)
   (.cond (.s 3)
    (.seq (.region [
      ⟨(some 10), (.mv (.s 0)), none, []⟩,
      ⟨(some 11), (.bin .sub (.s 10) (.c (.int .u8 48))), none, [0]⟩,
      ⟨(some 2), (.mv (.s 11)), none, [1, 0, 1]⟩] false)
    .ret)
    (.seq (.region [
      ⟨(some 13), (.mv (.s 0)), none, []⟩,
      ⟨(some 14), (.bin .geq (.s 13) (.c (.int .u8 97))), none, [0]⟩,
      ⟨(some 15), (.mv (.s 14)), none, [1]⟩,
      ⟨(some 16), (.mv (.s 0)), (some (15, true)), [2]⟩,
      ⟨(some 17), (.bin .leq (.s 16) (.c (.int .u8 102))), (some (15, true)), [3, 2]⟩,
      ⟨(some 18), (.pick (.s 15) (.s 17) (.c (.bool false))), none, [2, 4]⟩,
      ⟨(some 12), (.mv (.s 18)), none, [5, 2]⟩] false)
    (.cond (.s 12)
     (.seq (.region [
       ⟨(some 19), (.mv (.s 0)), none, []⟩,
       ⟨(some 20), (.bin .sub (.s 19) (.c (.int .u8 97))), none, [0]⟩,
       ⟨(some 21), (.bin .add (.s 20) (.c (.int .u8 10))), none, [1]⟩,
       ⟨(some 2), (.mv (.s 21)), none, [2, 0, 1, 2]⟩] false)
     .ret)
     (.seq (.region [
       ⟨(some 23), (.mv (.s 0)), none, []⟩,
       ⟨(some 24), (.bin .geq (.s 23) (.c (.int .u8 65))), none, [0]⟩,
       ⟨(some 25), (.mv (.s 24)), none, [1]⟩,
       ⟨(some 26), (.mv (.s 0)), (some (25, true)), [2]⟩,
       ⟨(some 27), (.bin .leq (.s 26) (.c (.int .u8 70))), (some (25, true)), [3, 2]⟩,
       ⟨(some 28), (.pick (.s 25) (.s 27) (.c (.bool false))), none, [2, 4]⟩,
       ⟨(some 22), (.mv (.s 28)), none, [5, 2]⟩] false)
     (.cond (.s 22)
      (.seq (.region [
        ⟨(some 29), (.mv (.s 0)), none, []⟩,
        ⟨(some 30), (.bin .sub (.s 29) (.c (.int .u8 65))), none, [0]⟩,
        ⟨(some 31), (.bin .add (.s 30) (.c (.int .u8 10))), none, [1]⟩,
        ⟨(some 2), (.mv (.s 31)), none, [2, 0, 1, 2]⟩] false)
      .ret)
      .skip)))))))
  (.seq (.region [
    ⟨(some 2), (.mv (.c (.int .u8 16))), none, []⟩] false)
  .ret))), false, (some [(Sh.int .u8)]), (some (Sh.int .u8))⟩

/-- strings.IndexByte -/
def k63 : Fun := ⟨2, 8, [0, 1, 4], [(.tmp 4)],
  (.seq (.region [
    ⟨(some 4), (.mv (.c (.int .i64 0))), none, []⟩] false)
  (.seq (.region [
    ⟨(some 5), (.mv (.s 0)), none, []⟩,
    ⟨(some 6), (.mv (.s 1)), none, []⟩,
    ⟨(some 7), (.call (.c (.fn 65 [])) [(.s 5), (.s 6)]), none, [0, 1]⟩,
    ⟨(some 4), (.mv (.s 7)), none, [2, 2, 0, 1, 2]⟩] false)
  .ret)), false, (some [Sh.str, (Sh.int .u8)]), (some (Sh.int .i64))⟩

/-- slices.Grow[[]byte,byte] -/
def k64 : Fun := ⟨2, 27, [0, 1, 4, 6, 16], [(.tmp 4)],
  (.seq (.region [
    ⟨(some 4), (.mv (.c .nils)), none, []⟩] false)
  (.seq (.seq (.region [
    ⟨(some 5), (.mv (.s 1)), none, []⟩,
    ⟨(some 6), (.bin .lss (.s 5) (.c (.int .i64 0))), none, [0]⟩] false)
  (.cond (.s 6)
   (.region [
     ⟨(some 7), .bad, none, []⟩,
     ⟨none, .bad, none, [0]⟩] false)
   .skip))
  (.seq (.seq (.region [
    ⟨(some 8), (.mv (.s 1)), none, []⟩,
    ⟨(some 9), (.mv (.s 0)), none, []⟩,
    ⟨(some 10), (.cap (.s 9)), none, [1]⟩,
    ⟨(some 11), (.mv (.s 0)), none, []⟩,
    ⟨(some 12), (.len false (.s 11)), none, [3]⟩,
    ⟨(some 13), (.bin .sub (.s 10) (.s 12)), none, [2, 4]⟩,
    ⟨(some 14), (.bin .sub (.s 8) (.s 13)), none, [0, 5]⟩,
    ⟨(some 1), (.mv (.s 14)), none, [6, 0, 1, 2, 3, 4, 5, 6]⟩] false)
  (.seq (.region [
    ⟨(some 15), (.mv (.s 1)), none, []⟩,
    ⟨(some 16), (.bin .gtr (.s 15) (.c (.int .i64 0))), none, [0]⟩] false)
  (.cond (.s 16)
   (.region [
     ⟨(some 17), (.mv (.s 0)), none, []⟩,
     ⟨(some 18), (.mv (.s 0)), none, []⟩,
     ⟨(some 19), (.cap (.s 18)), none, [1]⟩,
     ⟨(some 20), (.sls 1 (.s 17) none (some (.s 19)) none), none, [0, 2]⟩,
     ⟨(some 21), (.mv (.s 1)), none, []⟩,
     ⟨(some 22), (.apz 1 1 (.ints .u8 [0]) (.s 20) (.s 21)), none, [3, 4]⟩,
     ⟨(some 23), (.mv (.s 0)), none, []⟩,
     ⟨(some 24), (.len false (.s 23)), none, [6]⟩,
     ⟨(some 25), (.sls 1 (.s 22) none (some (.s 24)) none), none, [5, 7]⟩,
     ⟨(some 0), (.mv (.s 25)), none, [8, 5, 0, 1, 2, 3, 4, 5, 6, 7, 8]⟩] false)
   .skip)))
  (.seq (.region [
    ⟨(some 26), (.mv (.s 0)), none, []⟩,
    ⟨(some 4), (.mv (.s 26)), none, [0, 0]⟩] false)
  (.pre ⟨0, [], true, [], [(4, (.ints .u8 []), 1)]⟩ .ret))))), false, none, none⟩

/-- internal/stringslite.IndexByte -/
def k65 : Fun := ⟨2, 8, [0, 1, 4], [(.tmp 4)],
  (.seq (.region [
    ⟨(some 4), (.mv (.c (.int .i64 0))), none, []⟩] false)
  (.seq (.region [
    ⟨(some 5), (.mv (.s 0)), none, []⟩,
    ⟨(some 6), (.mv (.s 1)), none, []⟩,
    ⟨(some 7), (.call (.c (.fn 66 [])) [(.s 5), (.s 6)]), none, [0, 1]⟩,
    ⟨(some 4), (.mv (.s 7)), none, [2, 2, 0, 1, 2]⟩] false)
  .ret)), false, (some [Sh.str, (Sh.int .u8)]), (some (Sh.int .i64))⟩

/-- euphroe/euphroelaw20.PppfLays -/
def k121 : Fun := ⟨3, 98, [0, 1, 2, 3, 6, 7, 8, 9, 10, 11, 12, 13, 17], [(.tmp 6)],
  (.seq (.region [
    ⟨(some 3), (.box (.s 0)), none, []⟩,
    ⟨(some 6), (.mv (.c (.bool false))), none, []⟩] false)
  (.seq (.seq (.region [
    ⟨(some 14), (.fad 1 (.s 3)), none, []⟩,
    ⟨(some 15), (.ldc (.s 14)), none, [0]⟩,
    ⟨(some 16), (.len false (.s 15)), none, [1]⟩,
    ⟨(some 17), (.bin .gtr (.s 16) (.c (.int .i64 4500))), none, [2]⟩] false)
  (.cond (.s 17)
   (.seq (.region [
     ⟨(some 18), (.call (.c (.fn 127 [])) []), none, []⟩,
     ⟨(some 6), (.mv (.s 18)), none, [0, 0, 0]⟩] false)
   .ret)
   .skip))
  (.seq (.region [
    ⟨(some 20), (.lda 2 none (.s 3)), none, []⟩,
    ⟨(some 21), (.call (.c (.fn 129 [])) [(.s 20)]), none, [0]⟩,
    ⟨(some 22), (.mv (.s 1)), none, []⟩,
    ⟨(some 23), (.mv (.s 2)), none, []⟩,
    ⟨(some 24), (.call (.c (.fn 128 [])) [(.s 21), (.s 22), (.s 23)]), none, [1, 2, 3, 1]⟩,
    ⟨(some 19), (.mv (.s 24)), none, [4]⟩,
    ⟨(some 25), (.ext (.s 19) 0), none, [5]⟩,
    ⟨(some 26), (.ext (.s 19) 1), none, [5]⟩,
    ⟨(some 7), (.mv (.s 25)), none, [6, 4, 0, 1, 2, 3, 4, 5, 6]⟩,
    ⟨(some 8), (.mv (.s 26)), none, [7, 8, 0, 1, 2, 3, 4, 5, 6, 7, 8]⟩] false)
  (.seq (.region [
    ⟨(some 28), (.lda 2 none (.s 3)), none, []⟩,
    ⟨(some 29), (.mv (.s 1)), none, []⟩,
    ⟨(some 30), (.mv (.s 2)), none, []⟩,
    ⟨(some 31), (.call (.c (.fn 130 [])) [(.s 28), (.s 29), (.s 30)]), none, [0, 1, 2]⟩,
    ⟨(some 27), (.mv (.s 31)), none, [3]⟩,
    ⟨(some 32), (.ext (.s 27) 0), none, [4]⟩,
    ⟨(some 33), (.ext (.s 27) 1), none, [4]⟩,
    ⟨(some 9), (.mv (.s 32)), none, [5, 3, 0, 1, 2, 3, 4, 5]⟩,
    ⟨(some 10), (.mv (.s 33)), none, [6, 7, 0, 1, 2, 3, 4, 5, 6, 7]⟩] false)
  (.seq (.region [
    ⟨(some 35), (.mv (.s 7)), none, []⟩,
    ⟨(some 36), (.call (.c (.fn 131 [])) [(.s 35)]), none, [0]⟩,
    ⟨(some 34), (.mv (.s 36)), none, [1]⟩,
    ⟨(some 37), (.ext (.s 34) 0), none, [2]⟩,
    ⟨(some 38), (.ext (.s 34) 1), none, [2]⟩,
    ⟨(some 11), (.new (.vals [(.int .u16 0), .nils])), none, []⟩,
    ⟨none, (.stc 2 (.s 11) (.s 37)), none, [5, 3, 1, 0, 1, 2, 3, 5]⟩,
    ⟨(some 12), (.mv (.s 38)), none, [4, 6, 0, 1, 2, 3, 4, 5, 6]⟩] false)
  (.seq (.region [
    ⟨(some 39), (.fad 0 (.s 3)), none, []⟩,
    ⟨(some 40), (.ldc (.s 39)), none, [0]⟩,
    ⟨(some 41), (.bin .eql (.s 40) (.c (.int .u16 33))), none, [1]⟩,
    ⟨(some 42), (.mv (.s 41)), none, [2]⟩,
    ⟨(some 43), (.fad 0 (.s 3)), (some (42, false)), [3]⟩,
    ⟨(some 44), (.ldc (.s 43)), (some (42, false)), [4, 3]⟩,
    ⟨(some 45), (.bin .eql (.s 44) (.c (.int .u16 32801))), (some (42, false)), [5, 3]⟩,
    ⟨(some 46), (.pick (.s 42) (.c (.bool true)) (.s 45)), none, [3, 6]⟩,
    ⟨(some 47), (.mv (.s 46)), none, [7, 3]⟩,
    ⟨(some 48), (.fad 0 (.s 3)), (some (47, false)), [8]⟩,
    ⟨(some 49), (.ldc (.s 48)), (some (47, false)), [9, 8]⟩,
    ⟨(some 50), (.bin .eql (.s 49) (.c (.int .u16 49185))), (some (47, false)), [10, 8]⟩,
    ⟨(some 51), (.pick (.s 47) (.c (.bool true)) (.s 50)), none, [8, 11]⟩,
    ⟨(some 52), (.mv (.s 51)), none, [12, 8]⟩,
    ⟨(some 53), (.fad 0 (.s 3)), (some (52, false)), [13]⟩,
    ⟨(some 54), (.ldc (.s 53)), (some (52, false)), [14, 13]⟩,
    ⟨(some 55), (.bin .eql (.s 54) (.c (.int .u16 49699))), (some (52, false)), [15, 13]⟩,
    ⟨(some 56), (.pick (.s 52) (.c (.bool true)) (.s 55)), none, [13, 16]⟩,
    ⟨(some 13), (.mv (.s 56)), none, [17, 13, 0, 1, 2, 3, 4, 5, 6, 7, 8, 9, 10, 11, 12, 13, 14, 15, 16, 17]⟩] false)
  (.seq (.region [
    ⟨(some 57), (.mv (.s 7)), none, []⟩,
    ⟨(some 58), (.mv (.s 9)), none, []⟩,
    ⟨(some 59), (.call (.c (.fn 23 [])) [(.s 57), (.s 58)]), none, [0, 1]⟩,
    ⟨(some 60), (.mv (.s 59)), none, [2, 2]⟩,
    ⟨(some 61), (.mv (.s 8)), (some (60, true)), [3]⟩,
    ⟨(some 62), (.mv (.s 10)), (some (60, true)), [3]⟩,
    ⟨(some 63), (.bin .eql (.s 61) (.s 62)), (some (60, true)), [4, 5, 3]⟩,
    ⟨(some 64), (.pick (.s 60) (.s 63) (.c (.bool false))), none, [3, 6]⟩,
    ⟨(some 65), (.mv (.s 64)), none, [7, 3]⟩,
    ⟨(some 66), (.fad 0 (.s 3)), (some (65, true)), [8]⟩,
    ⟨(some 67), (.ldc (.s 66)), (some (65, true)), [9, 8]⟩,
    ⟨(some 68), (.call (.c (.fn 132 [])) [(.s 67)]), (some (65, true)), [10, 8, 8]⟩,
    ⟨(some 69), (.fad 0 (.s 3)), (some (65, true)), [8]⟩,
    ⟨(some 70), (.ldc (.s 69)), (some (65, true)), [12, 8]⟩,
    ⟨(some 71), (.call (.c (.fn 133 [])) [(.s 70)]), (some (65, true)), [13, 11, 8]⟩,
    ⟨(some 72), (.eqn .b false (.s 68) (.s 71)), (some (65, true)), [11, 14, 8]⟩,
    ⟨(some 73), (.pick (.s 65) (.s 72) (.c (.bool false))), none, [8, 15]⟩,
    ⟨(some 74), (.mv (.s 73)), none, [16, 14]⟩,
    ⟨(some 75), (.fad 0 (.s 3)), (some (74, true)), [17]⟩,
    ⟨(some 76), (.ldc (.s 75)), (some (74, true)), [18, 17]⟩,
    ⟨(some 77), (.call (.c (.fn 134 [])) [(.s 76)]), (some (74, true)), [19, 17, 17]⟩,
    ⟨(some 78), (.mv (.s 13)), (some (74, true)), [17]⟩,
    ⟨(some 79), (.eqn .b false (.s 77) (.s 78)), (some (74, true)), [20, 21, 17]⟩,
    ⟨(some 80), (.pick (.s 74) (.s 79) (.c (.bool false))), none, [17, 22]⟩,
    ⟨(some 81), (.mv (.s 80)), none, [23, 20]⟩,
    ⟨(some 82), (.mv (.s 8)), (some (81, true)), [24]⟩,
    ⟨(some 83), (.bin .neq (.s 82) (.c (.int .i64 0))), (some (81, true)), [25, 24]⟩,
    ⟨(some 84), (.mv (.s 83)), (some (81, true)), [26, 24, 24]⟩,
    ⟨(some 85), (.lda 2 none (.s 11)), (some (84, false)), [27]⟩,
    ⟨(some 86), (.lda 2 none (.s 3)), (some (84, false)), [27]⟩,
    ⟨(some 87), (.call (.c (.fn 129 [])) [(.s 86)]), (some (84, false)), [29, 27, 27]⟩,
    ⟨(some 88), (.call (.c (.fn 135 [])) [(.s 85), (.s 87)]), (some (84, false)), [28, 30, 30, 27]⟩,
    ⟨(some 89), (.mv (.s 88)), (some (84, false)), [31, 31, 27]⟩,
    ⟨(some 90), (.mv (.s 12)), (some (89, true)), [32]⟩,
    ⟨(some 91), (.bin .eql (.s 90) (.c (.int .i64 0))), (some (89, true)), [33, 32]⟩,
    ⟨(some 92), (.pick (.s 89) (.s 91) (.c (.bool false))), (some (84, false)), [32, 34, 27]⟩,
    ⟨(some 93), (.pick (.s 84) (.c (.bool true)) (.s 92)), (some (81, true)), [27, 35, 24]⟩,
    ⟨(some 94), (.pick (.s 81) (.s 93) (.c (.bool false))), none, [24, 36]⟩,
    ⟨(some 95), (.mv (.s 94)), none, [37, 32]⟩,
    ⟨(some 96), (.call (.c (.fn 127 [])) []), (some (95, true)), [38, 38]⟩,
    ⟨(some 97), (.pick (.s 95) (.s 96) (.c (.bool false))), none, [38, 39]⟩,
    ⟨(some 6), (.mv (.s 97)), none, [40, 39, 0, 1, 2, 3, 4, 5, 6, 7, 8, 9, 10, 11, 12, 13, 14, 15, 16, 17, 18, 19, 20, 21, 22, 23, 24, 25, 26, 27, 28, 29, 30, 31, 32, 33, 34, 35, 36, 37, 38, 39, 40]⟩] true)
  .ret))))))), false, (some [(Sh.st (Sh.pr (Sh.int .u16) (Sh.sl (Sh.int .u8)))), Sh.bool, Sh.bool]), (some Sh.bool)⟩

/-- euphroe/euphroelaw20.PppfParses -/
def k122 : Fun := ⟨2, 51, [0, 1, 3, 4, 5, 6, 7, 8, 17], [(.tmp 4)],
  (.seq (.region [
    ⟨(some 3), (.box (.s 1)), none, []⟩,
    ⟨(some 4), (.mv (.c (.bool false))), none, []⟩] false)
  (.seq (.seq (.region [
    ⟨(some 9), (.mv (.s 0)), none, []⟩,
    ⟨(some 10), (.len false (.s 9)), none, [0]⟩,
    ⟨(some 11), (.bin .gtr (.s 10) (.c (.int .i64 4500))), none, [1]⟩,
    ⟨(some 12), (.mv (.s 11)), none, [2]⟩,
    ⟨(some 13), (.fad 1 (.s 3)), (some (12, false)), [3]⟩,
    ⟨(some 14), (.ldc (.s 13)), (some (12, false)), [4, 3]⟩,
    ⟨(some 15), (.len false (.s 14)), (some (12, false)), [5, 3]⟩,
    ⟨(some 16), (.bin .gtr (.s 15) (.c (.int .i64 4500))), (some (12, false)), [6, 3]⟩,
    ⟨(some 17), (.pick (.s 12) (.c (.bool true)) (.s 16)), none, [3, 7]⟩] false)
  (.cond (.s 17)
   (.seq (.region [
     ⟨(some 18), (.call (.c (.fn 127 [])) []), none, []⟩,
     ⟨(some 4), (.mv (.s 18)), none, [0, 0, 0]⟩] false)
   .ret)
   .skip))
  (.seq (.region [
    ⟨(some 20), (.mv (.s 0)), none, []⟩,
    ⟨(some 21), (.call (.c (.fn 131 [])) [(.s 20)]), none, [0]⟩,
    ⟨(some 19), (.mv (.s 21)), none, [1]⟩,
    ⟨(some 22), (.ext (.s 19) 0), none, [2]⟩,
    ⟨(some 23), (.ext (.s 19) 1), none, [2]⟩,
    ⟨(some 5), (.new (.vals [(.int .u16 0), .nils])), none, []⟩,
    ⟨none, (.stc 2 (.s 5) (.s 22)), none, [5, 3, 1, 0, 1, 2, 3, 5]⟩,
    ⟨(some 6), (.mv (.s 23)), none, [4, 6, 0, 1, 2, 3, 4, 5, 6]⟩] false)
  (.seq (.region [
    ⟨(some 25), (.mv (.s 0)), none, []⟩,
    ⟨(some 26), (.call (.c (.fn 136 [])) [(.s 25)]), none, [0]⟩,
    ⟨(some 24), (.mv (.s 26)), none, [1]⟩,
    ⟨(some 27), (.ext (.s 24) 0), none, [2]⟩,
    ⟨(some 28), (.ext (.s 24) 1), none, [2]⟩,
    ⟨(some 7), (.new (.vals [(.int .u16 0), .nils])), none, []⟩,
    ⟨none, (.stc 2 (.s 7) (.s 27)), none, [5, 3, 1, 0, 1, 2, 3, 5]⟩,
    ⟨(some 8), (.mv (.s 28)), none, [4, 6, 0, 1, 2, 3, 4, 5, 6]⟩] false)
  (.seq (.region [
    ⟨(some 29), (.lda 2 none (.s 5)), none, []⟩,
    ⟨(some 30), (.lda 2 none (.s 7)), none, []⟩,
    ⟨(some 31), (.call (.c (.fn 129 [])) [(.s 30)]), none, [1]⟩,
    ⟨(some 32), (.call (.c (.fn 135 [])) [(.s 29), (.s 31)]), none, [0, 2, 2]⟩,
    ⟨(some 33), (.mv (.s 32)), none, [3, 3]⟩,
    ⟨(some 34), (.mv (.s 6)), (some (33, true)), [4]⟩,
    ⟨(some 35), (.mv (.s 8)), (some (33, true)), [4]⟩,
    ⟨(some 36), (.bin .eql (.s 34) (.s 35)), (some (33, true)), [5, 6, 4]⟩,
    ⟨(some 37), (.pick (.s 33) (.s 36) (.c (.bool false))), none, [4, 7]⟩,
    ⟨(some 38), (.mv (.s 37)), none, [8, 4]⟩,
    ⟨(some 39), (.lda 2 none (.s 5)), (some (38, true)), [9]⟩,
    ⟨(some 40), (.lda 2 none (.s 3)), (some (38, true)), [9]⟩,
    ⟨(some 41), (.call (.c (.fn 129 [])) [(.s 40)]), (some (38, true)), [11, 9, 9]⟩,
    ⟨(some 42), (.call (.c (.fn 135 [])) [(.s 39), (.s 41)]), (some (38, true)), [10, 12, 12, 9]⟩,
    ⟨(some 43), (.lda 2 none (.s 7)), (some (38, true)), [9]⟩,
    ⟨(some 44), (.lda 2 none (.s 3)), (some (38, true)), [9]⟩,
    ⟨(some 45), (.call (.c (.fn 137 [])) [(.s 43), (.s 44)]), (some (38, true)), [14, 15, 13, 9]⟩,
    ⟨(some 46), (.eqn .b false (.s 42) (.s 45)), (some (38, true)), [13, 16, 9]⟩,
    ⟨(some 47), (.pick (.s 38) (.s 46) (.c (.bool false))), none, [9, 17]⟩,
    ⟨(some 48), (.mv (.s 47)), none, [18, 16]⟩,
    ⟨(some 49), (.call (.c (.fn 127 [])) []), (some (48, true)), [19, 19]⟩,
    ⟨(some 50), (.pick (.s 48) (.s 49) (.c (.bool false))), none, [19, 20]⟩,
    ⟨(some 4), (.mv (.s 50)), none, [21, 20, 0, 1, 2, 3, 4, 5, 6, 7, 8, 9, 10, 11, 12, 13, 14, 15, 16, 17, 18, 19, 20, 21]⟩] true)
  .ret))))), false, (some [(Sh.sl (Sh.int .u8)), (Sh.st (Sh.pr (Sh.int .u16) (Sh.sl (Sh.int .u8))))]), (some Sh.bool)⟩

/-- euphroe/euphroelaw20.PppfShort -/
def k123 : Fun := ⟨1, 103, [0, 1, 2, 3, 4, 5, 6, 7, 8, 9, 19, 41], [(.tmp 2)],
  (.seq (.region [
    ⟨(some 1), (.box (.s 0)), none, []⟩,
    ⟨(some 2), (.mv (.c (.bool false))), none, []⟩] false)
  (.seq (.seq (.region [
    ⟨(some 10), (.fad 1 (.s 1)), none, []⟩,
    ⟨(some 11), (.ldc (.s 10)), none, [0]⟩,
    ⟨(some 12), (.len false (.s 11)), none, [1]⟩,
    ⟨(some 13), (.bin .gtr (.s 12) (.c (.int .i64 4000))), none, [2]⟩,
    ⟨(some 14), (.mv (.s 13)), none, [3]⟩,
    ⟨(some 15), (.fad 0 (.s 1)), (some (14, false)), [4]⟩,
    ⟨(some 16), (.ldc (.s 15)), (some (14, false)), [5, 4]⟩,
    ⟨(some 17), (.call (.c (.fn 132 [])) [(.s 16)]), (some (14, false)), [6, 4, 4]⟩,
    ⟨(some 18), (.un .not (.s 17)), (some (14, false)), [7, 4]⟩,
    ⟨(some 19), (.pick (.s 14) (.c (.bool true)) (.s 18)), none, [4, 8]⟩] false)
  (.cond (.s 19)
   (.seq (.region [
     ⟨(some 20), (.call (.c (.fn 127 [])) []), none, []⟩,
     ⟨(some 2), (.mv (.s 20)), none, [0, 0, 0]⟩] false)
   .ret)
   .skip))
  (.seq (.region [
    ⟨(some 22), (.lda 2 none (.s 1)), none, []⟩,
    ⟨(some 23), (.call (.c (.fn 129 [])) [(.s 22)]), none, [0]⟩,
    ⟨(some 24), (.call (.c (.fn 128 [])) [(.s 23), (.c (.bool false)), (.c (.bool false))]), none, [1, 1]⟩,
    ⟨(some 21), (.mv (.s 24)), none, [2]⟩,
    ⟨(some 25), (.ext (.s 21) 0), none, [3]⟩,
    ⟨(some 26), (.ext (.s 21) 1), none, [3]⟩,
    ⟨(some 3), (.mv (.s 25)), none, [4, 2, 0, 1, 2, 3, 4]⟩,
    ⟨(some 4), (.mv (.s 26)), none, [5, 6, 0, 1, 2, 3, 4, 5, 6]⟩] false)
  (.seq (.region [
    ⟨(some 28), (.lda 2 none (.s 1)), none, []⟩,
    ⟨(some 29), (.call (.c (.fn 129 [])) [(.s 28)]), none, [0]⟩,
    ⟨(some 30), (.call (.c (.fn 128 [])) [(.s 29), (.c (.bool true)), (.c (.bool false))]), none, [1, 1]⟩,
    ⟨(some 27), (.mv (.s 30)), none, [2]⟩,
    ⟨(some 31), (.ext (.s 27) 0), none, [3]⟩,
    ⟨(some 32), (.ext (.s 27) 1), none, [3]⟩,
    ⟨(some 5), (.mv (.s 31)), none, [4, 2, 0, 1, 2, 3, 4]⟩,
    ⟨(some 6), (.mv (.s 32)), none, [5, 6, 0, 1, 2, 3, 4, 5, 6]⟩] false)
  (.seq (.region [
    ⟨(some 34), (.lda 2 none (.s 1)), none, []⟩,
    ⟨(some 35), (.call (.c (.fn 129 [])) [(.s 34)]), none, [0]⟩,
    ⟨(some 36), (.call (.c (.fn 128 [])) [(.s 35), (.c (.bool true)), (.c (.bool true))]), none, [1, 1]⟩,
    ⟨(some 33), (.mv (.s 36)), none, [2]⟩,
    ⟨(some 37), (.ext (.s 33) 0), none, [3]⟩,
    ⟨(some 38), (.ext (.s 33) 1), none, [3]⟩,
    ⟨(some 7), (.mv (.s 37)), none, [4, 2, 0, 1, 2, 3, 4]⟩,
    ⟨(some 8), (.mv (.s 38)), none, [5, 6, 0, 1, 2, 3, 4, 5, 6]⟩] false)
  (.seq (.region [
    ⟨(some 9), (.mv (.c (.int .i64 0))), none, []⟩] false)
  (.seq (.seq (.region [
    ⟨(some 39), (.fad 0 (.s 1)), none, []⟩,
    ⟨(some 40), (.ldc (.s 39)), none, [0]⟩,
    ⟨(some 41), (.bin .lss (.s 40) (.c (.int .u16 256))), none, [1]⟩] false)
  (.cond (.s 41)
   (.region [
     ⟨(some 9), (.mv (.c (.int .i64 1))), none, []⟩] false)
   .skip))
  (.seq (.region [
    ⟨(some 42), (.mv (.s 4)), none, []⟩,
    ⟨(some 43), (.bin .eql (.s 42) (.c (.int .i64 0))), none, [0]⟩,
    ⟨(some 44), (.mv (.s 43)), none, [1]⟩,
    ⟨(some 45), (.mv (.s 6)), (some (44, true)), [2]⟩,
    ⟨(some 46), (.bin .eql (.s 45) (.c (.int .i64 0))), (some (44, true)), [3, 2]⟩,
    ⟨(some 47), (.pick (.s 44) (.s 46) (.c (.bool false))), none, [2, 4]⟩,
    ⟨(some 48), (.mv (.s 47)), none, [5, 2]⟩,
    ⟨(some 49), (.mv (.s 8)), (some (48, true)), [6]⟩,
    ⟨(some 50), (.bin .eql (.s 49) (.c (.int .i64 0))), (some (48, true)), [7, 6]⟩,
    ⟨(some 51), (.pick (.s 48) (.s 50) (.c (.bool false))), none, [6, 8]⟩,
    ⟨(some 52), (.mv (.s 51)), none, [9, 6]⟩,
    ⟨(some 53), (.mv (.s 3)), (some (52, true)), [10]⟩,
    ⟨(some 54), (.len false (.s 53)), (some (52, true)), [11, 10]⟩,
    ⟨(some 55), (.fad 1 (.s 1)), (some (52, true)), [10]⟩,
    ⟨(some 56), (.ldc (.s 55)), (some (52, true)), [13, 10]⟩,
    ⟨(some 57), (.len false (.s 56)), (some (52, true)), [14, 10]⟩,
    ⟨(some 58), (.bin .add (.c (.int .i64 4)) (.s 57)), (some (52, true)), [15, 10]⟩,
    ⟨(some 59), (.bin .eql (.s 54) (.s 58)), (some (52, true)), [12, 16, 10]⟩,
    ⟨(some 60), (.pick (.s 52) (.s 59) (.c (.bool false))), none, [10, 17]⟩,
    ⟨(some 61), (.mv (.s 60)), none, [18, 10]⟩,
    ⟨(some 62), (.mv (.s 5)), (some (61, true)), [19]⟩,
    ⟨(some 63), (.len false (.s 62)), (some (61, true)), [20, 19]⟩,
    ⟨(some 64), (.mv (.s 3)), (some (61, true)), [19]⟩,
    ⟨(some 65), (.len false (.s 64)), (some (61, true)), [22, 19]⟩,
    ⟨(some 66), (.bin .sub (.s 65) (.c (.int .i64 2))), (some (61, true)), [23, 19]⟩,
    ⟨(some 67), (.bin .eql (.s 63) (.s 66)), (some (61, true)), [21, 24, 19]⟩,
    ⟨(some 68), (.pick (.s 61) (.s 67) (.c (.bool false))), none, [19, 25]⟩,
    ⟨(some 69), (.mv (.s 68)), none, [26, 19]⟩,
    ⟨(some 70), (.mv (.s 7)), (some (69, true)), [27]⟩,
    ⟨(some 71), (.len false (.s 70)), (some (69, true)), [28, 27]⟩,
    ⟨(some 72), (.mv (.s 5)), (some (69, true)), [27]⟩,
    ⟨(some 73), (.len false (.s 72)), (some (69, true)), [30, 27]⟩,
    ⟨(some 74), (.mv (.s 9)), (some (69, true)), [27]⟩,
    ⟨(some 75), (.bin .sub (.s 73) (.s 74)), (some (69, true)), [31, 32, 27]⟩,
    ⟨(some 76), (.bin .eql (.s 71) (.s 75)), (some (69, true)), [29, 33, 27]⟩,
    ⟨(some 77), (.pick (.s 69) (.s 76) (.c (.bool false))), none, [27, 34]⟩,
    ⟨(some 78), (.mv (.s 77)), none, [35, 27]⟩,
    ⟨(some 79), (.mv (.s 3)), (some (78, true)), [36]⟩,
    ⟨(some 80), (.sls 1 (.s 79) (some (.c (.int .i64 4))) none none), (some (78, true)), [37, 36]⟩,
    ⟨(some 81), (.fad 1 (.s 1)), (some (78, true)), [36]⟩,
    ⟨(some 82), (.ldc (.s 81)), (some (78, true)), [39, 36]⟩,
    ⟨(some 83), (.call (.c (.fn 23 [])) [(.s 80), (.s 82)]), (some (78, true)), [38, 40, 36, 36]⟩,
    ⟨(some 84), (.pick (.s 78) (.s 83) (.c (.bool false))), none, [36, 41]⟩,
    ⟨(some 85), (.mv (.s 84)), none, [42, 41]⟩,
    ⟨(some 86), (.mv (.s 3)), (some (85, true)), [43]⟩,
    ⟨(some 87), (.sls 1 (.s 86) (some (.c (.int .i64 2))) none none), (some (85, true)), [44, 43]⟩,
    ⟨(some 88), (.mv (.s 5)), (some (85, true)), [43]⟩,
    ⟨(some 89), (.call (.c (.fn 23 [])) [(.s 87), (.s 88)]), (some (85, true)), [45, 46, 43, 43]⟩,
    ⟨(some 90), (.pick (.s 85) (.s 89) (.c (.bool false))), none, [43, 47]⟩,
    ⟨(some 91), (.mv (.s 90)), none, [48, 47]⟩,
    ⟨(some 92), (.mv (.s 7)), (some (91, true)), [49]⟩,
    ⟨(some 93), (.mv (.s 9)), (some (91, true)), [49]⟩,
    ⟨(some 94), (.bin .sub (.c (.int .i64 2)) (.s 93)), (some (91, true)), [51, 49]⟩,
    ⟨(some 95), (.sls 1 (.s 92) (some (.s 94)) none none), (some (91, true)), [50, 52, 49]⟩,
    ⟨(some 96), (.fad 1 (.s 1)), (some (91, true)), [49]⟩,
    ⟨(some 97), (.ldc (.s 96)), (some (91, true)), [54, 49]⟩,
    ⟨(some 98), (.call (.c (.fn 23 [])) [(.s 95), (.s 97)]), (some (91, true)), [53, 55, 49, 49]⟩,
    ⟨(some 99), (.pick (.s 91) (.s 98) (.c (.bool false))), none, [49, 56]⟩,
    ⟨(some 100), (.mv (.s 99)), none, [57, 56]⟩,
    ⟨(some 101), (.call (.c (.fn 127 [])) []), (some (100, true)), [58, 58]⟩,
    ⟨(some 102), (.pick (.s 100) (.s 101) (.c (.bool false))), none, [58, 59]⟩,
    ⟨(some 2), (.mv (.s 102)), none, [60, 59, 0, 1, 2, 3, 4, 5, 6, 7, 8, 9, 10, 11, 12, 13, 14, 15, 16, 17, 18, 19, 20, 21, 22, 23, 24, 25, 26, 27, 28, 29, 30, 31, 32, 33, 34, 35, 36, 37, 38, 39, 40, 41, 42, 43, 44, 45, 46, 47, 48, 49, 50, 51, 52, 53, 54, 55, 56, 57, 58, 59, 60]⟩] true)
  .ret)))))))), false, (some [(Sh.st (Sh.pr (Sh.int .u16) (Sh.sl (Sh.int .u8))))]), (some Sh.bool)⟩

/-- euphroe/euphroelaw17.AttrLays -/
def k124 : Fun := ⟨2, 115, [0, 1, 2, 4, 5, 6, 7, 8, 9, 10, 11, 12, 13, 14, 15, 16, 17, 26], [(.tmp 4)],
  (.seq (.region [
    ⟨(some 2), (.box (.s 0)), none, []⟩,
    ⟨(some 4), (.mv (.c (.bool false))), none, []⟩] false)
  (.seq (.seq (.region [
    ⟨(some 18), (.fad 1 (.s 2)), none, []⟩,
    ⟨(some 19), (.ldc (.s 18)), none, [0]⟩,
    ⟨(some 20), (.len false (.s 19)), none, [1]⟩,
    ⟨(some 21), (.bin .gtr (.s 20) (.c (.int .i64 5000))), none, [2]⟩,
    ⟨(some 22), (.mv (.s 21)), none, [3]⟩,
    ⟨(some 23), (.mv (.s 1)), (some (22, false)), [4]⟩,
    ⟨(some 24), (.len false (.s 23)), (some (22, false)), [5, 4]⟩,
    ⟨(some 25), (.bin .gtr (.s 24) (.c (.int .i64 5000))), (some (22, false)), [6, 4]⟩,
    ⟨(some 26), (.pick (.s 22) (.c (.bool true)) (.s 25)), none, [4, 7]⟩] false)
  (.cond (.s 26)
   (.seq (.region [
     ⟨(some 27), (.call (.c (.fn 138 [])) []), none, []⟩,
     ⟨(some 4), (.mv (.s 27)), none, [0, 0, 0]⟩] false)
   .ret)
   .skip))
  (.seq (.region [
    ⟨(some 29), (.lda 2 none (.s 2)), none, []⟩,
    ⟨(some 30), (.call (.c (.fn 140 [])) [(.s 29)]), none, [0]⟩,
    ⟨(some 31), (.call (.c (.fn 139 [])) [(.s 30)]), none, [1, 1]⟩,
    ⟨(some 28), (.mv (.s 31)), none, [2]⟩,
    ⟨(some 32), (.ext (.s 28) 0), none, [3]⟩,
    ⟨(some 33), (.ext (.s 28) 1), none, [3]⟩,
    ⟨(some 5), (.mv (.s 32)), none, [4, 2, 0, 1, 2, 3, 4]⟩,
    ⟨(some 6), (.mv (.s 33)), none, [5, 6, 0, 1, 2, 3, 4, 5, 6]⟩] false)
  (.seq (.region [
    ⟨(some 35), (.lda 2 none (.s 2)), none, []⟩,
    ⟨(some 36), (.call (.c (.fn 141 [])) [(.s 35)]), none, [0]⟩,
    ⟨(some 34), (.mv (.s 36)), none, [1]⟩,
    ⟨(some 37), (.ext (.s 34) 0), none, [2]⟩,
    ⟨(some 38), (.ext (.s 34) 1), none, [2]⟩,
    ⟨(some 7), (.mv (.s 37)), none, [3, 1, 0, 1, 2, 3]⟩,
    ⟨(some 8), (.mv (.s 38)), none, [4, 5, 0, 1, 2, 3, 4, 5]⟩] false)
  (.seq (.region [
    ⟨(some 40), (.mv (.s 1)), none, []⟩,
    ⟨(some 41), (.call (.c (.fn 142 [])) [(.s 40)]), none, [0]⟩,
    ⟨(some 39), (.mv (.s 41)), none, [1]⟩,
    ⟨(some 42), (.ext (.s 39) 0), none, [2]⟩,
    ⟨(some 43), (.ext (.s 39) 1), none, [2]⟩,
    ⟨(some 44), (.ext (.s 39) 2), none, [2]⟩,
    ⟨(some 9), (.new (.vals [(.int .u8 0), .nils])), none, []⟩,
    ⟨none, (.stc 2 (.s 9) (.s 42)), none, [6, 3, 1, 0, 1, 2, 3, 6]⟩,
    ⟨(some 10), (.mv (.s 43)), none, [4, 7, 0, 1, 2, 3, 4, 6, 7]⟩,
    ⟨(some 11), (.mv (.s 44)), none, [5, 8, 0, 1, 2, 3, 4, 5, 6, 7, 8]⟩] false)
  (.seq (.region [
    ⟨(some 46), (.mv (.s 1)), none, []⟩,
    ⟨(some 47), (.call (.c (.fn 143 [])) [(.s 46)]), none, [0]⟩,
    ⟨(some 45), (.mv (.s 47)), none, [1]⟩,
    ⟨(some 48), (.ext (.s 45) 0), none, [2]⟩,
    ⟨(some 49), (.ext (.s 45) 1), none, [2]⟩,
    ⟨(some 50), (.ext (.s 45) 2), none, [2]⟩,
    ⟨(some 12), (.new (.vals [(.int .u8 0), .nils])), none, []⟩,
    ⟨none, (.stc 2 (.s 12) (.s 48)), none, [6, 3, 1, 0, 1, 2, 3, 6]⟩,
    ⟨(some 13), (.mv (.s 49)), none, [4, 7, 0, 1, 2, 3, 4, 6, 7]⟩,
    ⟨(some 14), (.mv (.s 50)), none, [5, 8, 0, 1, 2, 3, 4, 5, 6, 7, 8]⟩] false)
  (.seq (.region [
    ⟨(some 52), (.mv (.s 5)), none, []⟩,
    ⟨(some 53), (.app 1 1 (.c .nils) (.s 52)), none, [0]⟩,
    ⟨(some 54), (.mv (.s 1)), none, []⟩,
    ⟨(some 55), (.app 1 1 (.s 53) (.s 54)), none, [1, 2, 1]⟩,
    ⟨(some 56), (.call (.c (.fn 142 [])) [(.s 55)]), none, [3, 3]⟩,
    ⟨(some 51), (.mv (.s 56)), none, [4]⟩,
    ⟨(some 57), (.ext (.s 51) 0), none, [5]⟩,
    ⟨(some 58), (.ext (.s 51) 1), none, [5]⟩,
    ⟨(some 59), (.ext (.s 51) 2), none, [5]⟩,
    ⟨(some 15), (.new (.vals [(.int .u8 0), .nils])), none, []⟩,
    ⟨none, (.stc 2 (.s 15) (.s 57)), none, [9, 6, 4, 0, 1, 2, 3, 4, 5, 6, 9]⟩,
    ⟨(some 16), (.mv (.s 58)), none, [7, 10, 0, 1, 2, 3, 4, 5, 6, 7, 9, 10]⟩,
    ⟨(some 17), (.mv (.s 59)), none, [8, 11, 0, 1, 2, 3, 4, 5, 6, 7, 8, 9, 10, 11]⟩] false)
  (.seq (.region [
    ⟨(some 60), (.mv (.s 5)), none, []⟩,
    ⟨(some 61), (.mv (.s 7)), none, []⟩,
    ⟨(some 62), (.call (.c (.fn 23 [])) [(.s 60), (.s 61)]), none, [0, 1]⟩,
    ⟨(some 63), (.mv (.s 62)), none, [2, 2]⟩,
    ⟨(some 64), (.mv (.s 6)), (some (63, true)), [3]⟩,
    ⟨(some 65), (.mv (.s 8)), (some (63, true)), [3]⟩,
    ⟨(some 66), (.bin .eql (.s 64) (.s 65)), (some (63, true)), [4, 5, 3]⟩,
    ⟨(some 67), (.pick (.s 63) (.s 66) (.c (.bool false))), none, [3, 6]⟩,
    ⟨(some 68), (.mv (.s 67)), none, [7, 3]⟩,
    ⟨(some 69), (.lda 2 none (.s 9)), (some (68, true)), [8]⟩,
    ⟨(some 70), (.lda 2 none (.s 12)), (some (68, true)), [8]⟩,
    ⟨(some 71), (.call (.c (.fn 140 [])) [(.s 70)]), (some (68, true)), [10, 8, 8]⟩,
    ⟨(some 72), (.call (.c (.fn 144 [])) [(.s 69), (.s 71)]), (some (68, true)), [9, 11, 11, 8]⟩,
    ⟨(some 73), (.pick (.s 68) (.s 72) (.c (.bool false))), none, [8, 12]⟩,
    ⟨(some 74), (.mv (.s 73)), none, [13, 12]⟩,
    ⟨(some 75), (.mv (.s 10)), (some (74, true)), [14]⟩,
    ⟨(some 76), (.mv (.s 13)), (some (74, true)), [14]⟩,
    ⟨(some 77), (.bin .eql (.s 75) (.s 76)), (some (74, true)), [15, 16, 14]⟩,
    ⟨(some 78), (.pick (.s 74) (.s 77) (.c (.bool false))), none, [14, 17]⟩,
    ⟨(some 79), (.mv (.s 78)), none, [18, 14]⟩,
    ⟨(some 80), (.mv (.s 11)), (some (79, true)), [19]⟩,
    ⟨(some 81), (.mv (.s 14)), (some (79, true)), [19]⟩,
    ⟨(some 82), (.bin .eql (.s 80) (.s 81)), (some (79, true)), [20, 21, 19]⟩,
    ⟨(some 83), (.pick (.s 79) (.s 82) (.c (.bool false))), none, [19, 22]⟩,
    ⟨(some 84), (.mv (.s 83)), none, [23, 19]⟩,
    ⟨(some 85), (.lda 2 none (.s 2)), (some (84, true)), [24]⟩,
    ⟨(some 86), (.call (.c (.fn 140 [])) [(.s 85)]), (some (84, true)), [25, 24, 24]⟩,
    ⟨(some 87), (.call (.c (.fn 145 [])) [(.s 86)]), (some (84, true)), [26, 26, 24]⟩,
    ⟨(some 88), (.lda 2 none (.s 2)), (some (84, true)), [24]⟩,
    ⟨(some 89), (.call (.c (.fn 146 [])) [(.s 88)]), (some (84, true)), [28, 27, 24]⟩,
    ⟨(some 90), (.bin .eql (.s 87) (.s 89)), (some (84, true)), [27, 29, 24]⟩,
    ⟨(some 91), (.pick (.s 84) (.s 90) (.c (.bool false))), none, [24, 30]⟩,
    ⟨(some 92), (.mv (.s 91)), none, [31, 29]⟩,
    ⟨(some 93), (.mv (.s 6)), (some (92, true)), [32]⟩,
    ⟨(some 94), (.bin .neq (.s 93) (.c (.int .i64 0))), (some (92, true)), [33, 32]⟩,
    ⟨(some 95), (.mv (.s 94)), (some (92, true)), [34, 32, 32]⟩,
    ⟨(some 96), (.lda 2 none (.s 15)), (some (95, false)), [35]⟩,
    ⟨(some 97), (.lda 2 none (.s 2)), (some (95, false)), [35]⟩,
    ⟨(some 98), (.call (.c (.fn 140 [])) [(.s 97)]), (some (95, false)), [37, 35, 35]⟩,
    ⟨(some 99), (.call (.c (.fn 144 [])) [(.s 96), (.s 98)]), (some (95, false)), [36, 38, 38, 35]⟩,
    ⟨(some 100), (.mv (.s 99)), (some (95, false)), [39, 39, 35]⟩,
    ⟨(some 101), (.mv (.s 16)), (some (100, true)), [40]⟩,
    ⟨(some 102), (.mv (.s 5)), (some (100, true)), [40]⟩,
    ⟨(some 103), (.len false (.s 102)), (some (100, true)), [42, 40]⟩,
    ⟨(some 104), (.bin .eql (.s 101) (.s 103)), (some (100, true)), [41, 43, 40]⟩,
    ⟨(some 105), (.pick (.s 100) (.s 104) (.c (.bool false))), (some (95, false)), [40, 44, 35]⟩,
    ⟨(some 106), (.mv (.s 105)), (some (95, false)), [45, 40, 35]⟩,
    ⟨(some 107), (.mv (.s 17)), (some (106, true)), [46]⟩,
    ⟨(some 108), (.bin .eql (.s 107) (.c (.int .i64 0))), (some (106, true)), [47, 46]⟩,
    ⟨(some 109), (.pick (.s 106) (.s 108) (.c (.bool false))), (some (95, false)), [46, 48, 35]⟩,
    ⟨(some 110), (.pick (.s 95) (.c (.bool true)) (.s 109)), (some (92, true)), [35, 49, 32]⟩,
    ⟨(some 111), (.pick (.s 92) (.s 110) (.c (.bool false))), none, [32, 50]⟩,
    ⟨(some 112), (.mv (.s 111)), none, [51, 46]⟩,
    ⟨(some 113), (.call (.c (.fn 138 [])) []), (some (112, true)), [52, 52]⟩,
    ⟨(some 114), (.pick (.s 112) (.s 113) (.c (.bool false))), none, [52, 53]⟩,
    ⟨(some 4), (.mv (.s 114)), none, [54, 53, 0, 1, 2, 3, 4, 5, 6, 7, 8, 9, 10, 11, 12, 13, 14, 15, 16, 17, 18, 19, 20, 21, 22, 23, 24, 25, 26, 27, 28, 29, 30, 31, 32, 33, 34, 35, 36, 37, 38, 39, 40, 41, 42, 43, 44, 45, 46, 47, 48, 49, 50, 51, 52, 53, 54]⟩] true)
  .ret)))))))), false, (some [(Sh.st (Sh.pr (Sh.int .u8) (Sh.sl (Sh.int .u8)))), (Sh.sl (Sh.int .u8))]), (some Sh.bool)⟩

/-- euphroe/euphroelaw17.AttrTakes -/
def k126 : Fun := ⟨1, 107, [0, 1, 2, 3, 4, 5, 6, 7, 8, 9, 10, 14, 61], [(.tmp 2)],
  (.seq (.region [
    ⟨(some 1), (.box (.s 0)), none, []⟩,
    ⟨(some 2), (.mv (.c (.bool false))), none, []⟩] false)
  (.seq (.seq (.region [
    ⟨(some 11), (.fad 1 (.s 1)), none, []⟩,
    ⟨(some 12), (.ldc (.s 11)), none, [0]⟩,
    ⟨(some 13), (.len false (.s 12)), none, [1]⟩,
    ⟨(some 14), (.bin .gtr (.s 13) (.c (.int .i64 5000))), none, [2]⟩] false)
  (.cond (.s 14)
   (.seq (.region [
     ⟨(some 15), (.call (.c (.fn 138 [])) []), none, []⟩,
     ⟨(some 2), (.mv (.s 15)), none, [0, 0, 0]⟩] false)
   .ret)
   .skip))
  (.seq (.region [
    ⟨(some 17), (.lda 2 none (.s 1)), none, []⟩,
    ⟨(some 18), (.call (.c (.fn 140 [])) [(.s 17)]), none, [0]⟩,
    ⟨(some 19), (.call (.c (.fn 156 [])) [(.s 18)]), none, [1, 1]⟩,
    ⟨(some 16), (.mv (.s 19)), none, [2]⟩,
    ⟨(some 20), (.ext (.s 16) 0), none, [3]⟩,
    ⟨(some 21), (.ext (.s 16) 1), none, [3]⟩,
    ⟨(some 3), (.mv (.s 20)), none, [4, 2, 0, 1, 2, 3, 4]⟩,
    ⟨(some 4), (.mv (.s 21)), none, [5, 6, 0, 1, 2, 3, 4, 5, 6]⟩] false)
  (.seq (.region [
    ⟨(some 23), (.lda 2 none (.s 1)), none, []⟩,
    ⟨(some 24), (.call (.c (.fn 140 [])) [(.s 23)]), none, [0]⟩,
    ⟨(some 25), (.call (.c (.fn 153 [])) [(.s 24)]), none, [1, 1]⟩,
    ⟨(some 22), (.mv (.s 25)), none, [2]⟩,
    ⟨(some 26), (.ext (.s 22) 0), none, [3]⟩,
    ⟨(some 27), (.ext (.s 22) 1), none, [3]⟩,
    ⟨(some 5), (.new (.vals [(.int .u8 0), (.int .u32 0), .nils])), none, []⟩,
    ⟨none, (.stc 3 (.s 5) (.s 26)), none, [6, 4, 2, 0, 1, 2, 3, 4, 6]⟩,
    ⟨(some 6), (.mv (.s 27)), none, [5, 7, 0, 1, 2, 3, 4, 5, 6, 7]⟩] false)
  (.seq (.region [
    ⟨(some 29), (.lda 2 none (.s 1)), none, []⟩,
    ⟨(some 30), (.call (.c (.fn 140 [])) [(.s 29)]), none, [0]⟩,
    ⟨(some 31), (.call (.c (.fn 154 [])) [(.s 30)]), none, [1, 1]⟩,
    ⟨(some 28), (.mv (.s 31)), none, [2]⟩,
    ⟨(some 32), (.ext (.s 28) 0), none, [3]⟩,
    ⟨(some 33), (.ext (.s 28) 1), none, [3]⟩,
    ⟨(some 7), (.new (.ints .u8 [0, 0, 0, 0, 0, 0, 0, 0, 0, 0, 0, 0, 0, 0, 0, 0, 0, 0, 0, 0, 0, 0, 0, 0, 0, 0, 0, 0, 0, 0, 0, 0, 0, 0, 0, 0, 0, 0, 0, 0, 0, 0, 0, 0, 0, 0, 0, 0, 0, 0, 0, 0, 0, 0, 0, 0, 0, 0, 0, 0, 0, 0, 0, 0, 0, 0, 0, 0, 0, 0, 0, 0, 0, 0, 0, 0, 0, 0, 0, 0, 0, 0, 0, 0, 0, 0, 0, 0, 0, 0, 0, 0, 0, 0, 0, 0, 0])), none, []⟩,
    ⟨none, (.stc 97 (.s 7) (.s 32)), none, [6, 4, 2, 0, 1, 2, 3, 4, 6]⟩,
    ⟨(some 8), (.mv (.s 33)), none, [5, 7, 0, 1, 2, 3, 4, 5, 6, 7]⟩] false)
  (.seq (.region [
    ⟨(some 35), (.lda 2 none (.s 1)), none, []⟩,
    ⟨(some 36), (.call (.c (.fn 140 [])) [(.s 35)]), none, [0]⟩,
    ⟨(some 37), (.call (.c (.fn 155 [])) [(.s 36)]), none, [1, 1]⟩,
    ⟨(some 34), (.mv (.s 37)), none, [2]⟩,
    ⟨(some 38), (.ext (.s 34) 0), none, [3]⟩,
    ⟨(some 39), (.ext (.s 34) 1), none, [3]⟩,
    ⟨(some 9), (.new (.ints .u8 [0, 0, 0, 0, 0, 0, 0, 0, 0, 0, 0, 0, 0, 0, 0, 0, 0, 0, 0, 0, 0, 0, 0, 0, 0, 0, 0, 0, 0, 0, 0, 0, 0])), none, []⟩,
    ⟨none, (.stc 33 (.s 9) (.s 38)), none, [6, 4, 2, 0, 1, 2, 3, 4, 6]⟩,
    ⟨(some 10), (.mv (.s 39)), none, [5, 7, 0, 1, 2, 3, 4, 5, 6, 7]⟩] false)
  (.seq (.seq (.region [
    ⟨(some 40), (.mv (.s 4)), none, []⟩,
    ⟨(some 41), (.lda 2 none (.s 1)), none, []⟩,
    ⟨(some 42), (.call (.c (.fn 158 [])) [(.s 41), (.c (.int .u8 1))]), none, [1]⟩,
    ⟨(some 43), (.bin .neq (.s 40) (.s 42)), none, [0, 2]⟩,
    ⟨(some 44), (.mv (.s 43)), none, [3, 2]⟩,
    ⟨(some 45), (.mv (.s 6)), (some (44, false)), [4]⟩,
    ⟨(some 46), (.lda 2 none (.s 1)), (some (44, false)), [4]⟩,
    ⟨(some 47), (.call (.c (.fn 158 [])) [(.s 46), (.c (.int .u8 2))]), (some (44, false)), [6, 4, 4]⟩,
    ⟨(some 48), (.bin .neq (.s 45) (.s 47)), (some (44, false)), [5, 7, 4]⟩,
    ⟨(some 49), (.pick (.s 44) (.c (.bool true)) (.s 48)), none, [4, 8]⟩,
    ⟨(some 50), (.mv (.s 49)), none, [9, 7]⟩,
    ⟨(some 51), (.mv (.s 8)), (some (50, false)), [10]⟩,
    ⟨(some 52), (.lda 2 none (.s 1)), (some (50, false)), [10]⟩,
    ⟨(some 53), (.call (.c (.fn 158 [])) [(.s 52), (.c (.int .u8 3))]), (some (50, false)), [12, 10, 10]⟩,
    ⟨(some 54), (.bin .neq (.s 51) (.s 53)), (some (50, false)), [11, 13, 10]⟩,
    ⟨(some 55), (.pick (.s 50) (.c (.bool true)) (.s 54)), none, [10, 14]⟩,
    ⟨(some 56), (.mv (.s 55)), none, [15, 13]⟩,
    ⟨(some 57), (.mv (.s 10)), (some (56, false)), [16]⟩,
    ⟨(some 58), (.lda 2 none (.s 1)), (some (56, false)), [16]⟩,
    ⟨(some 59), (.call (.c (.fn 158 [])) [(.s 58), (.c (.int .u8 4))]), (some (56, false)), [18, 16, 16]⟩,
    ⟨(some 60), (.bin .neq (.s 57) (.s 59)), (some (56, false)), [17, 19, 16]⟩,
    ⟨(some 61), (.pick (.s 56) (.c (.bool true)) (.s 60)), none, [16, 20]⟩] false)
  (.cond (.s 61)
   (.seq (.region [
     ⟨(some 2), (.mv (.c (.bool false))), none, []⟩] false)
   .ret)
   .skip))
  (.seq (.region [
    ⟨(some 62), (.mv (.s 4)), none, []⟩,
    ⟨(some 63), (.bin .neq (.s 62) (.c (.int .i64 0))), none, [0]⟩,
    ⟨(some 64), (.mv (.s 63)), none, [1]⟩,
    ⟨(some 65), (.mv (.s 3)), (some (64, false)), [2]⟩,
    ⟨(some 66), (.call (.c (.fn 157 [])) [(.s 65)]), (some (64, false)), [3, 2, 2]⟩,
    ⟨(some 67), (.lda 2 none (.s 1)), (some (64, false)), [2]⟩,
    ⟨(some 68), (.call (.c (.fn 140 [])) [(.s 67)]), (some (64, false)), [5, 4, 2]⟩,
    ⟨(some 69), (.call (.c (.fn 144 [])) [(.s 66), (.s 68)]), (some (64, false)), [4, 6, 6, 2]⟩,
    ⟨(some 70), (.pick (.s 64) (.c (.bool true)) (.s 69)), none, [2, 7]⟩,
    ⟨(some 71), (.mv (.s 70)), none, [8, 7]⟩,
    ⟨(some 72), (.mv (.s 6)), (some (71, true)), [9]⟩,
    ⟨(some 73), (.bin .neq (.s 72) (.c (.int .i64 0))), (some (71, true)), [10, 9]⟩,
    ⟨(some 74), (.mv (.s 73)), (some (71, true)), [11, 9, 9]⟩,
    ⟨(some 75), (.lda 3 none (.s 5)), (some (74, false)), [12]⟩,
    ⟨(some 76), (.call (.c (.fn 147 [])) [(.s 75)]), (some (74, false)), [13, 12, 12]⟩,
    ⟨(some 77), (.lda 2 none (.s 1)), (some (74, false)), [12]⟩,
    ⟨(some 78), (.call (.c (.fn 140 [])) [(.s 77)]), (some (74, false)), [15, 14, 12]⟩,
    ⟨(some 79), (.call (.c (.fn 144 [])) [(.s 76), (.s 78)]), (some (74, false)), [14, 16, 16, 12]⟩,
    ⟨(some 80), (.pick (.s 74) (.c (.bool true)) (.s 79)), (some (71, true)), [12, 17, 9]⟩,
    ⟨(some 81), (.pick (.s 71) (.s 80) (.c (.bool false))), none, [9, 18]⟩,
    ⟨(some 82), (.mv (.s 81)), none, [19, 17]⟩,
    ⟨(some 83), (.mv (.s 8)), (some (82, true)), [20]⟩,
    ⟨(some 84), (.bin .neq (.s 83) (.c (.int .i64 0))), (some (82, true)), [21, 20]⟩,
    ⟨(some 85), (.mv (.s 84)), (some (82, true)), [22, 20, 20]⟩,
    ⟨(some 86), (.lda 97 (some .u8) (.s 7)), (some (85, false)), [23]⟩,
    ⟨(some 87), (.call (.c (.fn 148 [])) [(.s 86)]), (some (85, false)), [24, 23, 23]⟩,
    ⟨(some 88), (.lda 2 none (.s 1)), (some (85, false)), [23]⟩,
    ⟨(some 89), (.call (.c (.fn 140 [])) [(.s 88)]), (some (85, false)), [26, 25, 23]⟩,
    ⟨(some 90), (.call (.c (.fn 144 [])) [(.s 87), (.s 89)]), (some (85, false)), [25, 27, 27, 23]⟩,
    ⟨(some 91), (.pick (.s 85) (.c (.bool true)) (.s 90)), (some (82, true)), [23, 28, 20]⟩,
    ⟨(some 92), (.pick (.s 82) (.s 91) (.c (.bool false))), none, [20, 29]⟩,
    ⟨(some 93), (.mv (.s 92)), none, [30, 28]⟩,
    ⟨(some 94), (.mv (.s 10)), (some (93, true)), [31]⟩,
    ⟨(some 95), (.bin .neq (.s 94) (.c (.int .i64 0))), (some (93, true)), [32, 31]⟩,
    ⟨(some 96), (.mv (.s 95)), (some (93, true)), [33, 31, 31]⟩,
    ⟨(some 97), (.lda 33 (some .u8) (.s 9)), (some (96, false)), [34]⟩,
    ⟨(some 98), (.call (.c (.fn 149 [])) [(.s 97)]), (some (96, false)), [35, 34, 34]⟩,
    ⟨(some 99), (.lda 2 none (.s 1)), (some (96, false)), [34]⟩,
    ⟨(some 100), (.call (.c (.fn 140 [])) [(.s 99)]), (some (96, false)), [37, 36, 34]⟩,
    ⟨(some 101), (.call (.c (.fn 144 [])) [(.s 98), (.s 100)]), (some (96, false)), [36, 38, 38, 34]⟩,
    ⟨(some 102), (.pick (.s 96) (.c (.bool true)) (.s 101)), (some (93, true)), [34, 39, 31]⟩,
    ⟨(some 103), (.pick (.s 93) (.s 102) (.c (.bool false))), none, [31, 40]⟩,
    ⟨(some 104), (.mv (.s 103)), none, [41, 39]⟩,
    ⟨(some 105), (.call (.c (.fn 138 [])) []), (some (104, true)), [42, 42]⟩,
    ⟨(some 106), (.pick (.s 104) (.s 105) (.c (.bool false))), none, [42, 43]⟩,
    ⟨(some 2), (.mv (.s 106)), none, [44, 43, 0, 1, 2, 3, 4, 5, 6, 7, 8, 9, 10, 11, 12, 13, 14, 15, 16, 17, 18, 19, 20, 21, 22, 23, 24, 25, 26, 27, 28, 29, 30, 31, 32, 33, 34, 35, 36, 37, 38, 39, 40, 41, 42, 43, 44]⟩] true)
  .ret)))))))), false, (some [(Sh.st (Sh.pr (Sh.int .u8) (Sh.sl (Sh.int .u8))))]), (some Sh.bool)⟩

/-- euphroe/euphroelaw20.alive -/
def k127 : Fun := ⟨0, 60, [0, 1, 2, 3, 4, 5, 6], [(.tmp 0)],
  (.seq (.region [
    ⟨(some 0), (.mv (.c (.bool false))), none, []⟩] false)
  (.seq (.region [
    ⟨(some 8), (.build (.vals [(.int .u16 0), .nils]) [(0, 1, (.c (.int .u16 33)))]), none, []⟩,
    ⟨(some 9), (.call (.c (.fn 128 [])) [(.s 8), (.c (.bool true)), (.c (.bool true))]), none, [0]⟩,
    ⟨(some 7), (.mv (.s 9)), none, [1]⟩,
    ⟨(some 10), (.ext (.s 7) 0), none, [2]⟩,
    ⟨(some 11), (.ext (.s 7) 1), none, [2]⟩,
    ⟨(some 1), (.mv (.s 10)), none, [3, 1, 0, 1, 2, 3]⟩,
    ⟨(some 2), (.mv (.s 11)), none, [4, 5, 0, 1, 2, 3, 4, 5]⟩] false)
  (.seq (.region [
    ⟨(some 13), (.bsl 1 1 (.ints .u8 [0]) [(0, 1, (.c (.int .u8 120)))]), none, []⟩,
    ⟨(some 14), (.cvs (.s 13)), none, [0]⟩,
    ⟨(some 15), (.build (.vals [(.int .u16 0), .nils]) [(0, 1, (.c (.int .u16 49185))), (1, 1, (.s 14))]), none, [1]⟩,
    ⟨(some 16), (.call (.c (.fn 128 [])) [(.s 15), (.c (.bool false)), (.c (.bool true))]), none, [2]⟩,
    ⟨(some 12), (.mv (.s 16)), none, [3]⟩,
    ⟨(some 17), (.ext (.s 12) 0), none, [4]⟩,
    ⟨(some 18), (.ext (.s 12) 1), none, [4]⟩,
    ⟨(some 3), (.mv (.s 17)), none, [5, 3, 0, 1, 2, 3, 4, 5]⟩,
    ⟨(some 4), (.mv (.s 18)), none, [6, 7, 0, 1, 2, 3, 4, 5, 6, 7]⟩] false)
  (.seq (.region [
    ⟨(some 20), (.mv (.s 3)), none, []⟩,
    ⟨(some 21), (.call (.c (.fn 131 [])) [(.s 20)]), none, [0]⟩,
    ⟨(some 19), (.mv (.s 21)), none, [1]⟩,
    ⟨(some 22), (.ext (.s 19) 0), none, [2]⟩,
    ⟨(some 23), (.ext (.s 19) 1), none, [2]⟩,
    ⟨(some 5), (.new (.vals [(.int .u16 0), .nils])), none, []⟩,
    ⟨none, (.stc 2 (.s 5) (.s 22)), none, [5, 3, 1, 0, 1, 2, 3, 5]⟩,
    ⟨(some 6), (.mv (.s 23)), none, [4, 6, 0, 1, 2, 3, 4, 5, 6]⟩] false)
  (.seq (.region [
    ⟨(some 24), (.mv (.s 1)), none, []⟩,
    ⟨(some 25), (.b2s (.s 24)), none, [0]⟩,
    ⟨(some 26), (.bin .eql (.s 25) (.c (.str [33]))), none, [1]⟩,
    ⟨(some 27), (.mv (.s 26)), none, [2]⟩,
    ⟨(some 28), (.mv (.s 2)), (some (27, true)), [3]⟩,
    ⟨(some 29), (.bin .eql (.s 28) (.c (.int .i64 0))), (some (27, true)), [4, 3]⟩,
    ⟨(some 30), (.pick (.s 27) (.s 29) (.c (.bool false))), none, [3, 5]⟩,
    ⟨(some 31), (.mv (.s 30)), none, [6, 3]⟩,
    ⟨(some 32), (.mv (.s 3)), (some (31, true)), [7]⟩,
    ⟨(some 33), (.len false (.s 32)), (some (31, true)), [8, 7]⟩,
    ⟨(some 34), (.bin .eql (.s 33) (.c (.int .i64 5))), (some (31, true)), [9, 7]⟩,
    ⟨(some 35), (.pick (.s 31) (.s 34) (.c (.bool false))), none, [7, 10]⟩,
    ⟨(some 36), (.mv (.s 35)), none, [11, 7]⟩,
    ⟨(some 37), (.mv (.s 4)), (some (36, true)), [12]⟩,
    ⟨(some 38), (.bin .eql (.s 37) (.c (.int .i64 0))), (some (36, true)), [13, 12]⟩,
    ⟨(some 39), (.pick (.s 36) (.s 38) (.c (.bool false))), none, [12, 14]⟩,
    ⟨(some 40), (.mv (.s 39)), none, [15, 12]⟩,
    ⟨(some 41), (.fad 0 (.s 5)), (some (40, true)), [16]⟩,
    ⟨(some 42), (.ldc (.s 41)), (some (40, true)), [17, 16]⟩,
    ⟨(some 43), (.bin .eql (.s 42) (.c (.int .u16 49185))), (some (40, true)), [18, 16]⟩,
    ⟨(some 44), (.pick (.s 40) (.s 43) (.c (.bool false))), none, [16, 19]⟩,
    ⟨(some 45), (.mv (.s 44)), none, [20, 16]⟩,
    ⟨(some 46), (.mv (.s 6)), (some (45, true)), [21]⟩,
    ⟨(some 47), (.bin .eql (.s 46) (.c (.int .i64 0))), (some (45, true)), [22, 21]⟩,
    ⟨(some 48), (.pick (.s 45) (.s 47) (.c (.bool false))), none, [21, 23]⟩,
    ⟨(some 49), (.mv (.s 48)), none, [24, 21]⟩,
    ⟨(some 50), (.lda 2 none (.s 5)), (some (49, true)), [25]⟩,
    ⟨(some 51), (.lda 2 none (.s 5)), (some (49, true)), [25]⟩,
    ⟨(some 52), (.call (.c (.fn 135 [])) [(.s 50), (.s 51)]), (some (49, true)), [26, 27, 25, 25]⟩,
    ⟨(some 53), (.pick (.s 49) (.s 52) (.c (.bool false))), none, [25, 28]⟩,
    ⟨(some 54), (.mv (.s 53)), none, [29, 28]⟩,
    ⟨(some 55), (.call (.c (.fn 134 [])) [(.c (.int .u16 49699))]), (some (54, true)), [30, 30]⟩,
    ⟨(some 56), (.pick (.s 54) (.s 55) (.c (.bool false))), none, [30, 31]⟩,
    ⟨(some 57), (.mv (.s 56)), none, [32, 31]⟩,
    ⟨(some 58), (.call (.c (.fn 132 [])) [(.c (.int .u16 32801))]), (some (57, true)), [33, 33]⟩,
    ⟨(some 59), (.pick (.s 57) (.s 58) (.c (.bool false))), none, [33, 34]⟩,
    ⟨(some 0), (.mv (.s 59)), none, [35, 34, 0, 1, 2, 3, 4, 5, 6, 7, 8, 9, 10, 11, 12, 13, 14, 15, 16, 17, 18, 19, 20, 21, 22, 23, 24, 25, 26, 27, 28, 29, 30, 31, 32, 33, 34, 35]⟩] false)
  .ret))))), false, (some []), (some Sh.bool)⟩

/-- euphroe/pppf.Lay -/
def k128 : Fun := ⟨3, 46, [0, 1, 2, 3, 6, 7, 8, 9, 10, 12, 17, 23, 31], [(.tmp 6), (.tmp 7)],
  (.seq (.region [
    ⟨(some 3), (.box (.s 0)), none, []⟩,
    ⟨(some 6), (.mv (.c .nils)), none, []⟩,
    ⟨(some 7), (.mv (.c (.int .i64 0))), none, [1]⟩] false)
  (.seq (.block 0
   (.seq (.region [
     ⟨(some 13), (.fad 0 (.s 3)), none, []⟩,
     ⟨(some 14), (.ldc (.s 13)), none, [0]⟩,
     ⟨(some 15), (.call (.c (.fn 132 [])) [(.s 14)]), none, [1]⟩,
     ⟨(some 16), (.un .not (.s 15)), none, [2]⟩,
     ⟨(some 12), (.mv (.s 16)), none, [3, 2]⟩] false)
   (.cond (.s 12)
    (.seq (.region [
      ⟨(some 6), (.mv (.c .nils)), none, []⟩,
      ⟨(some 7), (.mv (.c (.int .i64 3))), none, [0, 0]⟩] false)
    .ret)
    (.seq (.region [
      ⟨(some 18), (.fad 1 (.s 3)), none, []⟩,
      ⟨(some 19), (.ldc (.s 18)), none, [0]⟩,
      ⟨(some 20), (.len false (.s 19)), none, [1]⟩,
      ⟨(some 21), (.bin .gtr (.s 20) (.c (.int .i64 4000))), none, [2]⟩,
      ⟨(some 17), (.mv (.s 21)), none, [3]⟩] false)
    (.cond (.s 17)
     (.seq (.region [
       ⟨(some 6), (.mv (.c .nils)), none, []⟩,
       ⟨(some 7), (.mv (.c (.int .i64 8))), none, [0, 0]⟩] false)
     .ret)
     .skip)))))
  (.seq (.region [
    ⟨(some 8), (.mv (.c .nils)), none, []⟩] false)
  (.seq (.seq (.region [
    ⟨(some 22), (.mv (.s 1)), none, []⟩,
    ⟨(some 23), (.un .not (.s 22)), none, [0]⟩] false)
  (.cond (.s 23)
   (.region [
     ⟨(some 24), (.mv (.s 8)), none, []⟩,
     ⟨(some 25), (.app 1 1 (.s 24) (.c (.str [255, 3]))), none, [0]⟩,
     ⟨(some 8), (.mv (.s 25)), none, [1, 1, 0, 1]⟩] false)
   .skip))
  (.seq (.region [
    ⟨(some 9), (.mv (.c (.int .i64 2))), none, []⟩] false)
  (.seq (.seq (.region [
    ⟨(some 26), (.mv (.s 2)), none, []⟩,
    ⟨(some 27), (.mv (.s 26)), none, [0]⟩,
    ⟨(some 28), (.fad 0 (.s 3)), (some (27, true)), [1]⟩,
    ⟨(some 29), (.ldc (.s 28)), (some (27, true)), [2, 1]⟩,
    ⟨(some 30), (.bin .leq (.s 29) (.c (.int .u16 255))), (some (27, true)), [3, 1]⟩,
    ⟨(some 31), (.pick (.s 27) (.s 30) (.c (.bool false))), none, [1, 4]⟩] false)
  (.cond (.s 31)
   (.region [
     ⟨(some 9), (.mv (.c (.int .i64 1))), none, []⟩] false)
   .skip))
  (.seq (.region [
    ⟨(some 33), (.fad 0 (.s 3)), none, []⟩,
    ⟨(some 34), (.ldc (.s 33)), none, [0]⟩,
    ⟨(some 35), (.cvi .u64 (.s 34)), none, [1]⟩,
    ⟨(some 36), (.mv (.s 9)), none, []⟩,
    ⟨(some 37), (.call (.c (.fn 19 [])) [(.s 35), (.s 36), (.c (.bool false))]), none, [2, 3]⟩,
    ⟨(some 32), (.mv (.s 37)), none, [4]⟩,
    ⟨(some 38), (.ext (.s 32) 0), none, [5]⟩,
    ⟨(some 39), (.ext (.s 32) 1), none, [5]⟩,
    ⟨(some 10), (.mv (.s 38)), none, [6, 4, 0, 1, 2, 3, 4, 5, 6]⟩,
    ⟨(some 11), (.mv (.s 39)), none, [7, 8, 0, 1, 2, 3, 4, 5, 6, 7, 8]⟩] false)
  (.seq (.region [
    ⟨(some 40), (.mv (.s 8)), none, []⟩,
    ⟨(some 41), (.mv (.s 10)), none, []⟩,
    ⟨(some 42), (.fad 1 (.s 3)), none, []⟩,
    ⟨(some 43), (.ldc (.s 42)), none, [2]⟩,
    ⟨(some 44), (.bsl 3 1 (.vals [.nils, .nils, .nils]) [(0, 1, (.s 40)), (1, 1, (.s 41)), (2, 1, (.s 43))]), none, [0, 1, 3]⟩,
    ⟨(some 45), (.call (.c (.fn 46 [])) [(.s 44)]), none, [4]⟩,
    ⟨(some 6), (.mv (.s 45)), none, [5, 5, 0, 1, 2, 3, 4, 5]⟩,
    ⟨(some 7), (.mv (.c (.int .i64 0))), none, [6, 0, 1, 2, 3, 4, 5, 6]⟩] false)
  .ret)))))))), false, (some [(Sh.st (Sh.pr (Sh.int .u16) (Sh.sl (Sh.int .u8)))), Sh.bool, Sh.bool]), (some (Sh.tu (Sh.pr (Sh.sl (Sh.int .u8)) (Sh.int .i64))))⟩

/-- euphroe/euphroelaw20.theirs -/
def k129 : Fun := ⟨1, 8, [0, 1, 2], [(.cell 2 2 true none)],
  (.seq (.region [
    ⟨(some 1), (.box (.s 0)), none, []⟩,
    ⟨(some 2), (.new (.vals [(.int .u16 0), .nils])), none, []⟩] false)
  (.seq (.region [
    ⟨(some 3), (.fad 0 (.s 1)), none, []⟩,
    ⟨(some 4), (.ldc (.s 3)), none, [0]⟩,
    ⟨(some 5), (.fad 1 (.s 1)), none, []⟩,
    ⟨(some 6), (.ldc (.s 5)), none, [2]⟩,
    ⟨(some 7), (.build (.vals [(.int .u16 0), .nils]) [(0, 1, (.s 4)), (1, 1, (.s 6))]), none, [1, 3]⟩,
    ⟨none, (.stc 2 (.s 2) (.s 7)), none, [4, 0, 1, 2, 3, 4]⟩] false)
  .ret)), false, (some [(Sh.st (Sh.pr (Sh.int .u16) (Sh.sl (Sh.int .u8))))]), (some (Sh.st (Sh.pr (Sh.int .u16) (Sh.sl (Sh.int .u8)))))⟩

/-- euphroe/euphroeref20.Lay -/
def k130 : Fun := ⟨3, 43, [0, 1, 2, 3, 6, 7, 8, 12, 16, 18, 25], [(.tmp 6), (.tmp 7)],
  (.seq (.region [
    ⟨(some 3), (.box (.s 0)), none, []⟩,
    ⟨(some 6), (.mv (.c .nils)), none, []⟩,
    ⟨(some 7), (.mv (.c (.int .i64 0))), none, [1]⟩] false)
  (.seq (.seq (.region [
    ⟨(some 9), (.fad 0 (.s 3)), none, []⟩,
    ⟨(some 10), (.ldc (.s 9)), none, [0]⟩,
    ⟨(some 11), (.call (.c (.fn 133 [])) [(.s 10)]), none, [1]⟩,
    ⟨(some 12), (.un .not (.s 11)), none, [2]⟩] false)
  (.cond (.s 12)
   (.seq (.region [
     ⟨(some 6), (.mv (.c .nils)), none, []⟩,
     ⟨(some 7), (.mv (.c (.int .i64 3))), none, [0, 0]⟩] false)
   .ret)
   .skip))
  (.seq (.seq (.region [
    ⟨(some 13), (.fad 1 (.s 3)), none, []⟩,
    ⟨(some 14), (.ldc (.s 13)), none, [0]⟩,
    ⟨(some 15), (.len false (.s 14)), none, [1]⟩,
    ⟨(some 16), (.bin .gtr (.s 15) (.c (.int .i64 4000))), none, [2]⟩] false)
  (.cond (.s 16)
   (.seq (.region [
     ⟨(some 6), (.mv (.c .nils)), none, []⟩,
     ⟨(some 7), (.mv (.c (.int .i64 8))), none, [0, 0]⟩] false)
   .ret)
   .skip))
  (.seq (.region [
    ⟨(some 17), (.bsl 2 1 (.ints .u8 [0, 0]) [(0, 1, (.c (.int .u8 255))), (1, 1, (.c (.int .u8 3)))]), none, []⟩,
    ⟨(some 8), (.mv (.s 17)), none, [0, 0]⟩] false)
  (.seq (.seq (.region [
    ⟨(some 18), (.mv (.s 1)), none, []⟩] false)
  (.cond (.s 18)
   (.region [
     ⟨(some 8), (.mv (.c .nils)), none, []⟩] false)
   .skip))
  (.seq (.seq (.region [
    ⟨(some 19), (.mv (.s 2)), none, []⟩,
    ⟨(some 20), (.un .not (.s 19)), none, [0]⟩,
    ⟨(some 21), (.mv (.s 20)), none, [1]⟩,
    ⟨(some 22), (.fad 0 (.s 3)), (some (21, false)), [2]⟩,
    ⟨(some 23), (.ldc (.s 22)), (some (21, false)), [3, 2]⟩,
    ⟨(some 24), (.bin .gtr (.s 23) (.c (.int .u16 255))), (some (21, false)), [4, 2]⟩,
    ⟨(some 25), (.pick (.s 21) (.c (.bool true)) (.s 24)), none, [2, 5]⟩] false)
  (.cond (.s 25)
   (.region [
     ⟨(some 26), (.mv (.s 8)), none, []⟩,
     ⟨(some 27), (.fad 0 (.s 3)), none, []⟩,
     ⟨(some 28), (.ldc (.s 27)), none, [1]⟩,
     ⟨(some 29), (.bin .quo (.s 28) (.c (.int .u16 256))), none, [2]⟩,
     ⟨(some 30), (.cvi .u8 (.s 29)), none, [3]⟩,
     ⟨(some 31), (.bsl 1 1 (.ints .u8 [0]) [(0, 1, (.s 30))]), none, [4]⟩,
     ⟨(some 32), (.app 1 1 (.s 26) (.s 31)), none, [0, 5]⟩,
     ⟨(some 8), (.mv (.s 32)), none, [6, 6, 0, 1, 2, 3, 4, 5, 6]⟩] false)
   .skip))
  (.seq (.pre ⟨0, [(3, Sh.bool)], true, [41], []⟩ (.region [
    ⟨(some 33), (.mv (.s 8)), none, []⟩,
    ⟨(some 34), (.fad 0 (.s 3)), none, []⟩,
    ⟨(some 35), (.ldc (.s 34)), none, [1]⟩,
    ⟨(some 36), (.bin .rem (.s 35) (.c (.int .u16 256))), none, [2]⟩,
    ⟨(some 37), (.cvi .u8 (.s 36)), none, [3]⟩,
    ⟨(some 38), (.bsl 1 1 (.ints .u8 [0]) [(0, 1, (.s 37))]), none, [4]⟩,
    ⟨(some 39), (.app 1 1 (.s 33) (.s 38)), none, [0, 5]⟩,
    ⟨(some 40), (.fad 1 (.s 3)), none, []⟩,
    ⟨(some 41), (.ldr (.s 40)), none, [7]⟩,
    ⟨(some 42), (.app 1 1 (.s 39) (.s 41)), none, [6, 8, 6]⟩,
    ⟨(some 6), (.mv (.s 42)), none, [9, 9, 0, 1, 2, 3, 4, 5, 6, 7, 8, 9]⟩,
    ⟨(some 7), (.mv (.c (.int .i64 0))), none, [10, 0, 1, 2, 3, 4, 5, 6, 7, 8, 9, 10]⟩] true))
  .ret))))))), false, (some [(Sh.st (Sh.pr (Sh.int .u16) (Sh.sl (Sh.int .u8)))), Sh.bool, Sh.bool]), (some (Sh.tu (Sh.pr (Sh.sl (Sh.int .u8)) (Sh.int .i64))))⟩

/-- euphroe/pppf.Parse -/
def k131 : Fun := ⟨1, 53, [0, 2, 3, 4, 5, 7, 21, 25, 42, 48], [(.cell 2 2 true none), (.tmp 3)],
  (.seq (.region [
    ⟨(some 2), (.new (.vals [(.int .u16 0), .nils])), none, []⟩,
    ⟨(some 3), (.mv (.c (.int .i64 0))), none, []⟩] false)
  (.seq (.region [
    ⟨(some 8), (.mv (.s 0)), none, []⟩,
    ⟨(some 9), (.bsl 2 1 (.ints .u8 [0, 0]) [(0, 1, (.c (.int .u8 255))), (1, 1, (.c (.int .u8 3)))]), none, []⟩,
    ⟨(some 10), (.cvs (.s 9)), none, [1]⟩,
    ⟨(some 11), (.call (.c (.fn 159 [])) [(.s 8), (.s 10)]), none, [0, 2]⟩,
    ⟨(some 0), (.mv (.s 11)), none, [3, 3, 0, 1, 2, 3]⟩] false)
  (.seq (.region [
    ⟨(some 4), (.mv (.c (.int .i64 2))), none, []⟩] false)
  (.seq (.seq (.region [
    ⟨(some 12), (.mv (.s 0)), none, []⟩,
    ⟨(some 13), (.len false (.s 12)), none, [0]⟩,
    ⟨(some 14), (.bin .gtr (.s 13) (.c (.int .i64 0))), none, [1]⟩,
    ⟨(some 15), (.mv (.s 14)), none, [2]⟩,
    ⟨(some 16), (.mv (.s 0)), (some (15, true)), [3]⟩,
    ⟨(some 17), (.iad 1 (.s 16) (.c (.int .i64 0))), (some (15, true)), [4, 3]⟩,
    ⟨(some 18), (.ldc (.s 17)), (some (15, true)), [5, 3]⟩,
    ⟨(some 19), (.bin .and (.s 18) (.c (.int .u8 1))), (some (15, true)), [6, 3]⟩,
    ⟨(some 20), (.bin .eql (.s 19) (.c (.int .u8 1))), (some (15, true)), [7, 3]⟩,
    ⟨(some 21), (.pick (.s 15) (.s 20) (.c (.bool false))), none, [3, 8]⟩] false)
  (.cond (.s 21)
   (.region [
     ⟨(some 4), (.mv (.c (.int .i64 1))), none, []⟩] false)
   .skip))
  (.seq (.seq (.region [
    ⟨(some 22), (.mv (.s 0)), none, []⟩,
    ⟨(some 23), (.len false (.s 22)), none, [0]⟩,
    ⟨(some 24), (.mv (.s 4)), none, []⟩,
    ⟨(some 25), (.bin .lss (.s 23) (.s 24)), none, [1, 2]⟩] false)
  (.cond (.s 25)
   (.seq (.region [
     ⟨(some 26), (.build (.vals [(.int .u16 0), .nils]) []), none, []⟩,
     ⟨none, (.stc 2 (.s 2) (.s 26)), none, [0, 0]⟩,
     ⟨(some 3), (.mv (.c (.int .i64 4))), none, [1, 0, 1]⟩] false)
   .ret)
   .skip))
  (.seq (.region [
    ⟨(some 28), (.mv (.s 0)), none, []⟩,
    ⟨(some 29), (.mv (.s 4)), none, []⟩,
    ⟨(some 30), (.sls 1 (.s 28) none (some (.s 29)) none), none, [0, 1]⟩,
    ⟨(some 31), (.call (.c (.fn 21 [])) [(.s 30), (.c (.bool false))]), none, [2]⟩,
    ⟨(some 27), (.mv (.s 31)), none, [3]⟩,
    ⟨(some 32), (.ext (.s 27) 0), none, [4]⟩,
    ⟨(some 33), (.ext (.s 27) 1), none, [4]⟩,
    ⟨(some 5), (.mv (.s 32)), none, [5, 3, 0, 1, 2, 3, 4, 5]⟩,
    ⟨(some 6), (.mv (.s 33)), none, [6, 7, 0, 1, 2, 3, 4, 5, 6, 7]⟩] false)
  (.seq (.region [
    ⟨(some 34), (.mv (.s 0)), none, []⟩,
    ⟨(some 35), (.mv (.s 4)), none, []⟩,
    ⟨(some 36), (.sls 1 (.s 34) (some (.s 35)) none none), none, [0, 1]⟩,
    ⟨(some 7), (.mv (.s 36)), none, [2, 0, 1, 2]⟩] false)
  (.block 0
   (.seq (.region [
     ⟨(some 43), (.mv (.s 5)), none, []⟩,
     ⟨(some 44), (.cvi .u16 (.s 43)), none, [0]⟩,
     ⟨(some 45), (.call (.c (.fn 132 [])) [(.s 44)]), none, [1]⟩,
     ⟨(some 46), (.un .not (.s 45)), none, [2]⟩,
     ⟨(some 42), (.mv (.s 46)), none, [3, 2]⟩] false)
   (.cond (.s 42)
    (.seq (.region [
      ⟨(some 47), (.build (.vals [(.int .u16 0), .nils]) []), none, []⟩,
      ⟨none, (.stc 2 (.s 2) (.s 47)), none, [0, 0]⟩,
      ⟨(some 3), (.mv (.c (.int .i64 3))), none, [1, 0, 1]⟩] false)
    .ret)
    (.seq (.region [
      ⟨(some 49), (.mv (.s 7)), none, []⟩,
      ⟨(some 50), (.len false (.s 49)), none, [0]⟩,
      ⟨(some 51), (.bin .gtr (.s 50) (.c (.int .i64 4000))), none, [1]⟩,
      ⟨(some 48), (.mv (.s 51)), none, [2]⟩] false)
    (.cond (.s 48)
     (.seq (.region [
       ⟨(some 52), (.build (.vals [(.int .u16 0), .nils]) []), none, []⟩,
       ⟨none, (.stc 2 (.s 2) (.s 52)), none, [0, 0]⟩,
       ⟨(some 3), (.mv (.c (.int .i64 8))), none, [1, 0, 1]⟩] false)
     .ret)
     (.seq (.region [
       ⟨(some 37), (.mv (.s 5)), none, []⟩,
       ⟨(some 38), (.cvi .u16 (.s 37)), none, [0]⟩,
       ⟨(some 39), (.mv (.s 7)), none, []⟩,
       ⟨(some 40), (.call (.c (.fn 108 [])) [(.s 39)]), none, [2]⟩,
       ⟨(some 41), (.build (.vals [(.int .u16 0), .nils]) [(0, 1, (.s 38)), (1, 1, (.s 40))]), none, [1, 3]⟩,
       ⟨none, (.stc 2 (.s 2) (.s 41)), none, [4, 3, 0, 1, 2, 3, 4]⟩,
       ⟨(some 3), (.mv (.c (.int .i64 0))), none, [5, 0, 1, 2, 3, 4, 5]⟩] false)
     .ret))))))))))))), false, (some [(Sh.sl (Sh.int .u8))]), (some (Sh.tu (Sh.pr (Sh.st (Sh.pr (Sh.int .u16) (Sh.sl (Sh.int .u8)))) (Sh.int .i64))))⟩

/-- euphroe/pppf.May -/
def k132 : Fun := ⟨1, 16, [0, 2], [(.tmp 2)],
  (.seq (.region [
    ⟨(some 2), (.mv (.c (.bool false))), none, []⟩] false)
  (.seq (.region [
    ⟨(some 3), (.mv (.s 0)), none, []⟩,
    ⟨(some 4), (.bin .and (.s 3) (.c (.int .u16 1))), none, [0]⟩,
    ⟨(some 5), (.bin .eql (.s 4) (.c (.int .u16 1))), none, [1]⟩,
    ⟨(some 6), (.mv (.s 5)), none, [2]⟩,
    ⟨(some 7), (.mv (.s 0)), (some (6, true)), [3]⟩,
    ⟨(some 8), (.bin .shr (.s 7) (.c (.int .u64 8))), (some (6, true)), [4, 3]⟩,
    ⟨(some 9), (.bin .and (.s 8) (.c (.int .u16 1))), (some (6, true)), [5, 3]⟩,
    ⟨(some 10), (.bin .eql (.s 9) (.c (.int .u16 0))), (some (6, true)), [6, 3]⟩,
    ⟨(some 11), (.pick (.s 6) (.s 10) (.c (.bool false))), none, [3, 7]⟩,
    ⟨(some 12), (.mv (.s 11)), none, [8, 3]⟩,
    ⟨(some 13), (.mv (.s 0)), (some (12, true)), [9]⟩,
    ⟨(some 14), (.bin .neq (.s 13) (.c (.int .u16 255))), (some (12, true)), [10, 9]⟩,
    ⟨(some 15), (.pick (.s 12) (.s 14) (.c (.bool false))), none, [9, 11]⟩,
    ⟨(some 2), (.mv (.s 15)), none, [12, 9, 0, 1, 2, 3, 4, 5, 6, 7, 8, 9, 10, 11, 12]⟩] false)
  .ret)), false, (some [(Sh.int .u16)]), (some Sh.bool)⟩

/-- euphroe/euphroeref20.May -/
def k133 : Fun := ⟨1, 16, [0, 2], [(.tmp 2)],
  (.seq (.region [
    ⟨(some 2), (.mv (.c (.bool false))), none, []⟩] false)
  (.seq (.region [
    ⟨(some 3), (.mv (.s 0)), none, []⟩,
    ⟨(some 4), (.bin .rem (.s 3) (.c (.int .u16 2))), none, [0]⟩,
    ⟨(some 5), (.bin .eql (.s 4) (.c (.int .u16 1))), none, [1]⟩,
    ⟨(some 6), (.mv (.s 5)), none, [2]⟩,
    ⟨(some 7), (.mv (.s 0)), (some (6, true)), [3]⟩,
    ⟨(some 8), (.bin .quo (.s 7) (.c (.int .u16 256))), (some (6, true)), [4, 3]⟩,
    ⟨(some 9), (.bin .rem (.s 8) (.c (.int .u16 2))), (some (6, true)), [5, 3]⟩,
    ⟨(some 10), (.bin .eql (.s 9) (.c (.int .u16 0))), (some (6, true)), [6, 3]⟩,
    ⟨(some 11), (.pick (.s 6) (.s 10) (.c (.bool false))), none, [3, 7]⟩,
    ⟨(some 12), (.mv (.s 11)), none, [8, 3]⟩,
    ⟨(some 13), (.mv (.s 0)), (some (12, true)), [9]⟩,
    ⟨(some 14), (.bin .neq (.s 13) (.c (.int .u16 255))), (some (12, true)), [10, 9]⟩,
    ⟨(some 15), (.pick (.s 12) (.s 14) (.c (.bool false))), none, [9, 11]⟩,
    ⟨(some 2), (.mv (.s 15)), none, [12, 9, 0, 1, 2, 3, 4, 5, 6, 7, 8, 9, 10, 11, 12]⟩] false)
  .ret)), false, (some [(Sh.int .u16)]), (some Sh.bool)⟩

/-- euphroe/pppf.Known -/
def k134 : Fun := ⟨1, 10, [0, 2, 3, 4, 7], [(.tmp 2)],
  (.seq (.region [
    ⟨(some 2), (.mv (.c (.bool false))), none, []⟩] false)
  (.seq (.seq (.region [
    ⟨(some 3), (.mv (.s 0)), none, []⟩] false)
  (.block 0
   (.seq (.block 2
    (.block 1
     (.seq (.seq (.seq (.seq (.region [
       ⟨(some 5), (.bin .eql (.s 3) (.c (.int .u16 33))), none, []⟩,
       ⟨(some 4), (.mv (.s 5)), none, [0]⟩] false)
     (.cond (.s 4)
      .skip
      (.region [
        ⟨(some 6), (.bin .eql (.s 3) (.c (.int .u16 32801))), none, []⟩,
        ⟨(some 4), (.mv (.s 6)), none, [0]⟩] false)))
     (.cond (.s 4)
      (.pre ⟨0, [], false, [], []⟩ (.exit 1))
      .skip))
     (.seq (.seq (.region [
       ⟨(some 8), (.bin .eql (.s 3) (.c (.int .u16 49185))), none, []⟩,
       ⟨(some 7), (.mv (.s 8)), none, [0]⟩] false)
     (.cond (.s 7)
      .skip
      (.region [
        ⟨(some 9), (.bin .eql (.s 3) (.c (.int .u16 49699))), none, []⟩,
        ⟨(some 7), (.mv (.s 9)), none, [0]⟩] false)))
     (.cond (.s 7)
      (.pre ⟨0, [], false, [], []⟩ (.exit 2))
      .skip)))
     (.pre ⟨0, [], false, [], []⟩ (.exit 0)))))
   (.seq (.seq (.region [
     ⟨(some 2), (.mv (.c (.bool true))), none, []⟩] false)
   .ret)
   (.pre ⟨0, [], false, [], []⟩ (.exit 0))))))
  (.seq (.region [
    ⟨(some 2), (.mv (.c (.bool false))), none, []⟩] false)
  .ret))), false, (some [(Sh.int .u16)]), (some Sh.bool)⟩

/-- euphroe/pppf.Same -/
def k135 : Fun := ⟨2, 17, [0, 1, 2, 3, 4], [(.tmp 4)],
  (.seq (.region [
    ⟨(some 2), (.box (.s 0)), none, []⟩,
    ⟨(some 3), (.box (.s 1)), none, []⟩,
    ⟨(some 4), (.mv (.c (.bool false))), none, []⟩] false)
  (.seq (.region [
    ⟨(some 5), (.fad 0 (.s 2)), none, []⟩,
    ⟨(some 6), (.ldc (.s 5)), none, [0]⟩,
    ⟨(some 7), (.fad 0 (.s 3)), none, []⟩,
    ⟨(some 8), (.ldc (.s 7)), none, [2]⟩,
    ⟨(some 9), (.bin .eql (.s 6) (.s 8)), none, [1, 3]⟩,
    ⟨(some 10), (.mv (.s 9)), none, [4]⟩,
    ⟨(some 11), (.fad 1 (.s 2)), (some (10, true)), [5]⟩,
    ⟨(some 12), (.ldc (.s 11)), (some (10, true)), [6, 5]⟩,
    ⟨(some 13), (.fad 1 (.s 3)), (some (10, true)), [5]⟩,
    ⟨(some 14), (.ldc (.s 13)), (some (10, true)), [8, 5]⟩,
    ⟨(some 15), (.call (.c (.fn 160 [])) [(.s 12), (.s 14)]), (some (10, true)), [7, 9, 5, 5]⟩,
    ⟨(some 16), (.pick (.s 10) (.s 15) (.c (.bool false))), none, [5, 10]⟩,
    ⟨(some 4), (.mv (.s 16)), none, [11, 10, 0, 1, 2, 3, 4, 5, 6, 7, 8, 9, 10, 11]⟩] false)
  .ret)), false, (some [(Sh.st (Sh.pr (Sh.int .u16) (Sh.sl (Sh.int .u8)))), (Sh.st (Sh.pr (Sh.int .u16) (Sh.sl (Sh.int .u8))))]), (some Sh.bool)⟩

/-- euphroe/euphroeref20.Parse -/
def k136 : Fun := ⟨1, 66, [0, 2, 3, 4, 19, 24, 37, 40, 58, 63], [(.cell 2 2 true none), (.tmp 3)],
  (.seq (.region [
    ⟨(some 2), (.new (.vals [(.int .u16 0), .nils])), none, []⟩,
    ⟨(some 3), (.mv (.c (.int .i64 0))), none, []⟩] false)
  (.seq (.seq (.region [
    ⟨(some 5), (.mv (.s 0)), none, []⟩,
    ⟨(some 6), (.len false (.s 5)), none, [0]⟩,
    ⟨(some 7), (.bin .geq (.s 6) (.c (.int .i64 2))), none, [1]⟩,
    ⟨(some 8), (.mv (.s 7)), none, [2]⟩,
    ⟨(some 9), (.mv (.s 0)), (some (8, true)), [3]⟩,
    ⟨(some 10), (.iad 1 (.s 9) (.c (.int .i64 0))), (some (8, true)), [4, 3]⟩,
    ⟨(some 11), (.ldc (.s 10)), (some (8, true)), [5, 3]⟩,
    ⟨(some 12), (.bin .eql (.s 11) (.c (.int .u8 255))), (some (8, true)), [6, 3]⟩,
    ⟨(some 13), (.pick (.s 8) (.s 12) (.c (.bool false))), none, [3, 7]⟩,
    ⟨(some 14), (.mv (.s 13)), none, [8, 3]⟩,
    ⟨(some 15), (.mv (.s 0)), (some (14, true)), [9]⟩,
    ⟨(some 16), (.iad 1 (.s 15) (.c (.int .i64 1))), (some (14, true)), [10, 9]⟩,
    ⟨(some 17), (.ldc (.s 16)), (some (14, true)), [11, 9]⟩,
    ⟨(some 18), (.bin .eql (.s 17) (.c (.int .u8 3))), (some (14, true)), [12, 9]⟩,
    ⟨(some 19), (.pick (.s 14) (.s 18) (.c (.bool false))), none, [9, 13]⟩] false)
  (.cond (.s 19)
   (.region [
     ⟨(some 20), (.mv (.s 0)), none, []⟩,
     ⟨(some 21), (.sls 1 (.s 20) (some (.c (.int .i64 2))) none none), none, [0]⟩,
     ⟨(some 0), (.mv (.s 21)), none, [1, 0, 1]⟩] false)
   .skip))
  (.seq (.seq (.region [
    ⟨(some 22), (.mv (.s 0)), none, []⟩,
    ⟨(some 23), (.len false (.s 22)), none, [0]⟩,
    ⟨(some 24), (.bin .eql (.s 23) (.c (.int .i64 0))), none, [1]⟩] false)
  (.cond (.s 24)
   (.seq (.region [
     ⟨(some 25), (.build (.vals [(.int .u16 0), .nils]) []), none, []⟩,
     ⟨none, (.stc 2 (.s 2) (.s 25)), none, [0, 0]⟩,
     ⟨(some 3), (.mv (.c (.int .i64 4))), none, [1, 0, 1]⟩] false)
   .ret)
   .skip))
  (.seq (.region [
    ⟨(some 26), (.mv (.s 0)), none, []⟩,
    ⟨(some 27), (.iad 1 (.s 26) (.c (.int .i64 0))), none, [0]⟩,
    ⟨(some 28), (.ldc (.s 27)), none, [1]⟩,
    ⟨(some 29), (.cvi .u16 (.s 28)), none, [2]⟩,
    ⟨(some 30), (.mv (.s 0)), none, []⟩,
    ⟨(some 31), (.sls 1 (.s 30) (some (.c (.int .i64 1))) none none), none, [4]⟩,
    ⟨(some 32), (.build (.vals [(.int .u16 0), .nils]) [(0, 1, (.s 29)), (1, 1, (.s 31))]), none, [3, 5]⟩,
    ⟨(some 4), (.new (.vals [(.int .u16 0), .nils])), none, []⟩,
    ⟨none, (.stc 2 (.s 4) (.s 32)), none, [7, 6, 0, 1, 2, 3, 4, 5, 6, 7]⟩] true)
  (.seq (.seq (.region [
    ⟨(some 33), (.mv (.s 0)), none, []⟩,
    ⟨(some 34), (.iad 1 (.s 33) (.c (.int .i64 0))), none, [0]⟩,
    ⟨(some 35), (.ldc (.s 34)), none, [1]⟩,
    ⟨(some 36), (.bin .rem (.s 35) (.c (.int .u8 2))), none, [2]⟩,
    ⟨(some 37), (.bin .eql (.s 36) (.c (.int .u8 0))), none, [3]⟩] false)
  (.cond (.s 37)
   (.seq (.seq (.region [
     ⟨(some 38), (.mv (.s 0)), none, []⟩,
     ⟨(some 39), (.len false (.s 38)), none, [0]⟩,
     ⟨(some 40), (.bin .lss (.s 39) (.c (.int .i64 2))), none, [1]⟩] false)
   (.cond (.s 40)
    (.seq (.region [
      ⟨(some 41), (.build (.vals [(.int .u16 0), .nils]) []), none, []⟩,
      ⟨none, (.stc 2 (.s 2) (.s 41)), none, [0, 0]⟩,
      ⟨(some 3), (.mv (.c (.int .i64 4))), none, [1, 0, 1]⟩] false)
    .ret)
    .skip))
   (.region [
     ⟨(some 42), (.mv (.s 0)), none, []⟩,
     ⟨(some 43), (.iad 1 (.s 42) (.c (.int .i64 0))), none, [0]⟩,
     ⟨(some 44), (.ldc (.s 43)), none, [1]⟩,
     ⟨(some 45), (.cvi .u16 (.s 44)), none, [2]⟩,
     ⟨(some 46), (.bin .mul (.c (.int .u16 256)) (.s 45)), none, [3]⟩,
     ⟨(some 47), (.mv (.s 0)), none, []⟩,
     ⟨(some 48), (.iad 1 (.s 47) (.c (.int .i64 1))), none, [5]⟩,
     ⟨(some 49), (.ldc (.s 48)), none, [6]⟩,
     ⟨(some 50), (.cvi .u16 (.s 49)), none, [7]⟩,
     ⟨(some 51), (.bin .add (.s 46) (.s 50)), none, [4, 8]⟩,
     ⟨(some 52), (.mv (.s 0)), none, []⟩,
     ⟨(some 53), (.sls 1 (.s 52) (some (.c (.int .i64 2))) none none), none, [10]⟩,
     ⟨(some 54), (.build (.vals [(.int .u16 0), .nils]) [(0, 1, (.s 51)), (1, 1, (.s 53))]), none, [9, 11]⟩,
     ⟨none, (.stc 2 (.s 4) (.s 54)), none, [12, 0, 1, 2, 3, 4, 5, 6, 7, 8, 9, 10, 11, 12]⟩] true))
   .skip))
  (.seq (.seq (.region [
    ⟨(some 55), (.fad 0 (.s 4)), none, []⟩,
    ⟨(some 56), (.ldc (.s 55)), none, [0]⟩,
    ⟨(some 57), (.call (.c (.fn 133 [])) [(.s 56)]), none, [1]⟩,
    ⟨(some 58), (.un .not (.s 57)), none, [2]⟩] false)
  (.cond (.s 58)
   (.seq (.region [
     ⟨(some 59), (.build (.vals [(.int .u16 0), .nils]) []), none, []⟩,
     ⟨none, (.stc 2 (.s 2) (.s 59)), none, [0, 0]⟩,
     ⟨(some 3), (.mv (.c (.int .i64 3))), none, [1, 0, 1]⟩] false)
   .ret)
   .skip))
  (.seq (.seq (.region [
    ⟨(some 60), (.fad 1 (.s 4)), none, []⟩,
    ⟨(some 61), (.ldc (.s 60)), none, [0]⟩,
    ⟨(some 62), (.len false (.s 61)), none, [1]⟩,
    ⟨(some 63), (.bin .gtr (.s 62) (.c (.int .i64 4000))), none, [2]⟩] false)
  (.cond (.s 63)
   (.seq (.region [
     ⟨(some 64), (.build (.vals [(.int .u16 0), .nils]) []), none, []⟩,
     ⟨none, (.stc 2 (.s 2) (.s 64)), none, [0, 0]⟩,
     ⟨(some 3), (.mv (.c (.int .i64 8))), none, [1, 0, 1]⟩] false)
   .ret)
   .skip))
  (.seq (.region [
    ⟨(some 65), (.lda 2 none (.s 4)), none, []⟩,
    ⟨none, (.stc 2 (.s 2) (.s 65)), none, [0, 0]⟩,
    ⟨(some 3), (.mv (.c (.int .i64 0))), none, [1, 0, 1]⟩] false)
  .ret)))))))), false, (some [(Sh.sl (Sh.int .u8))]), (some (Sh.tu (Sh.pr (Sh.st (Sh.pr (Sh.int .u16) (Sh.sl (Sh.int .u8)))) (Sh.int .i64))))⟩

/-- euphroe/euphroeref20.Same -/
def k137 : Fun := ⟨2, 17, [0, 1, 2, 3, 4], [(.tmp 4)],
  (.seq (.region [
    ⟨(some 2), (.box (.s 0)), none, []⟩,
    ⟨(some 3), (.box (.s 1)), none, []⟩,
    ⟨(some 4), (.mv (.c (.bool false))), none, []⟩] false)
  (.seq (.region [
    ⟨(some 5), (.fad 0 (.s 2)), none, []⟩,
    ⟨(some 6), (.ldc (.s 5)), none, [0]⟩,
    ⟨(some 7), (.fad 0 (.s 3)), none, []⟩,
    ⟨(some 8), (.ldc (.s 7)), none, [2]⟩,
    ⟨(some 9), (.bin .eql (.s 6) (.s 8)), none, [1, 3]⟩,
    ⟨(some 10), (.mv (.s 9)), none, [4]⟩,
    ⟨(some 11), (.fad 1 (.s 2)), (some (10, true)), [5]⟩,
    ⟨(some 12), (.ldc (.s 11)), (some (10, true)), [6, 5]⟩,
    ⟨(some 13), (.fad 1 (.s 3)), (some (10, true)), [5]⟩,
    ⟨(some 14), (.ldc (.s 13)), (some (10, true)), [8, 5]⟩,
    ⟨(some 15), (.call (.c (.fn 23 [])) [(.s 12), (.s 14)]), (some (10, true)), [7, 9, 5, 5]⟩,
    ⟨(some 16), (.pick (.s 10) (.s 15) (.c (.bool false))), none, [5, 10]⟩,
    ⟨(some 4), (.mv (.s 16)), none, [11, 10, 0, 1, 2, 3, 4, 5, 6, 7, 8, 9, 10, 11]⟩] false)
  .ret)), false, (some [(Sh.st (Sh.pr (Sh.int .u16) (Sh.sl (Sh.int .u8)))), (Sh.st (Sh.pr (Sh.int .u16) (Sh.sl (Sh.int .u8))))]), (some Sh.bool)⟩

/-- euphroe/euphroelaw17.alive -/
def k138 : Fun := ⟨0, 69, [0, 1, 2, 3, 4, 5, 6, 7, 8, 9], [(.tmp 0)],
  (.seq (.region [
    ⟨(some 0), (.mv (.c (.bool false))), none, []⟩] false)
  (.seq (.region [
    ⟨(some 11), (.call (.c (.fn 157 [])) [(.c (.int .u16 1))]), none, []⟩,
    ⟨(some 12), (.call (.c (.fn 139 [])) [(.s 11)]), none, [0, 0]⟩,
    ⟨(some 10), (.mv (.s 12)), none, [1]⟩,
    ⟨(some 13), (.ext (.s 10) 0), none, [2]⟩,
    ⟨(some 14), (.ext (.s 10) 1), none, [2]⟩,
    ⟨(some 1), (.mv (.s 13)), none, [3, 1, 0, 1, 2, 3]⟩,
    ⟨(some 2), (.mv (.s 14)), none, [4, 5, 0, 1, 2, 3, 4, 5]⟩] false)
  (.seq (.region [
    ⟨(some 16), (.mv (.s 1)), none, []⟩,
    ⟨(some 17), (.call (.c (.fn 142 [])) [(.s 16)]), none, [0]⟩,
    ⟨(some 15), (.mv (.s 17)), none, [1]⟩,
    ⟨(some 18), (.ext (.s 15) 0), none, [2]⟩,
    ⟨(some 19), (.ext (.s 15) 1), none, [2]⟩,
    ⟨(some 20), (.ext (.s 15) 2), none, [2]⟩,
    ⟨(some 3), (.new (.vals [(.int .u8 0), .nils])), none, []⟩,
    ⟨none, (.stc 2 (.s 3) (.s 18)), none, [6, 3, 1, 0, 1, 2, 3, 6]⟩,
    ⟨(some 4), (.mv (.s 19)), none, [4, 7, 0, 1, 2, 3, 4, 6, 7]⟩,
    ⟨(some 5), (.mv (.s 20)), none, [5, 8, 0, 1, 2, 3, 4, 5, 6, 7, 8]⟩] false)
  (.seq (.region [
    ⟨(some 22), (.lda 2 none (.s 3)), none, []⟩,
    ⟨(some 23), (.call (.c (.fn 156 [])) [(.s 22)]), none, [0]⟩,
    ⟨(some 21), (.mv (.s 23)), none, [1]⟩,
    ⟨(some 24), (.ext (.s 21) 0), none, [2]⟩,
    ⟨(some 25), (.ext (.s 21) 1), none, [2]⟩,
    ⟨(some 6), (.mv (.s 24)), none, [3, 1, 0, 1, 2, 3]⟩,
    ⟨(some 7), (.mv (.s 25)), none, [4, 5, 0, 1, 2, 3, 4, 5]⟩] false)
  (.seq (.region [
    ⟨(some 27), (.build (.ints .u8 [0, 0, 0, 0, 0, 0, 0, 0, 0, 0, 0, 0, 0, 0, 0, 0, 0, 0, 0, 0, 0, 0, 0, 0, 0, 0, 0, 0, 0, 0, 0, 0, 0]) [(0, 1, (.c (.int .u8 2)))]), none, []⟩,
    ⟨(some 28), (.call (.c (.fn 149 [])) [(.s 27)]), none, [0]⟩,
    ⟨(some 29), (.call (.c (.fn 155 [])) [(.s 28)]), none, [1, 1]⟩,
    ⟨(some 26), (.mv (.s 29)), none, [2]⟩,
    ⟨(some 30), (.ext (.s 26) 0), none, [3]⟩,
    ⟨(some 31), (.ext (.s 26) 1), none, [3]⟩,
    ⟨(some 8), (.new (.ints .u8 [0, 0, 0, 0, 0, 0, 0, 0, 0, 0, 0, 0, 0, 0, 0, 0, 0, 0, 0, 0, 0, 0, 0, 0, 0, 0, 0, 0, 0, 0, 0, 0, 0])), none, []⟩,
    ⟨none, (.stc 33 (.s 8) (.s 30)), none, [6, 4, 2, 0, 1, 2, 3, 4, 6]⟩,
    ⟨(some 9), (.mv (.s 31)), none, [5, 7, 0, 1, 2, 3, 4, 5, 6, 7]⟩] false)
  (.seq (.region [
    ⟨(some 32), (.mv (.s 1)), none, []⟩,
    ⟨(some 33), (.b2s (.s 32)), none, [0]⟩,
    ⟨(some 34), (.bin .eql (.s 33) (.c (.str [0, 1, 0, 6, 0, 1]))), none, [1]⟩,
    ⟨(some 35), (.mv (.s 34)), none, [2]⟩,
    ⟨(some 36), (.mv (.s 2)), (some (35, true)), [3]⟩,
    ⟨(some 37), (.bin .eql (.s 36) (.c (.int .i64 0))), (some (35, true)), [4, 3]⟩,
    ⟨(some 38), (.pick (.s 35) (.s 37) (.c (.bool false))), none, [3, 5]⟩,
    ⟨(some 39), (.mv (.s 38)), none, [6, 3]⟩,
    ⟨(some 40), (.mv (.s 4)), (some (39, true)), [7]⟩,
    ⟨(some 41), (.bin .eql (.s 40) (.c (.int .i64 6))), (some (39, true)), [8, 7]⟩,
    ⟨(some 42), (.pick (.s 39) (.s 41) (.c (.bool false))), none, [7, 9]⟩,
    ⟨(some 43), (.mv (.s 42)), none, [10, 7]⟩,
    ⟨(some 44), (.mv (.s 5)), (some (43, true)), [11]⟩,
    ⟨(some 45), (.bin .eql (.s 44) (.c (.int .i64 0))), (some (43, true)), [12, 11]⟩,
    ⟨(some 46), (.pick (.s 43) (.s 45) (.c (.bool false))), none, [11, 13]⟩,
    ⟨(some 47), (.mv (.s 46)), none, [14, 11]⟩,
    ⟨(some 48), (.mv (.s 6)), (some (47, true)), [15]⟩,
    ⟨(some 49), (.bin .eql (.s 48) (.c (.int .u16 1))), (some (47, true)), [16, 15]⟩,
    ⟨(some 50), (.pick (.s 47) (.s 49) (.c (.bool false))), none, [15, 17]⟩,
    ⟨(some 51), (.mv (.s 50)), none, [18, 15]⟩,
    ⟨(some 52), (.mv (.s 7)), (some (51, true)), [19]⟩,
    ⟨(some 53), (.bin .eql (.s 52) (.c (.int .i64 0))), (some (51, true)), [20, 19]⟩,
    ⟨(some 54), (.pick (.s 51) (.s 53) (.c (.bool false))), none, [19, 21]⟩,
    ⟨(some 55), (.mv (.s 54)), none, [22, 19]⟩,
    ⟨(some 56), (.fad 0 (.s 8)), (some (55, true)), [23]⟩,
    ⟨(some 57), (.ldc (.s 56)), (some (55, true)), [24, 23]⟩,
    ⟨(some 58), (.bin .eql (.s 57) (.c (.int .u8 2))), (some (55, true)), [25, 23]⟩,
    ⟨(some 59), (.pick (.s 55) (.s 58) (.c (.bool false))), none, [23, 26]⟩,
    ⟨(some 60), (.mv (.s 59)), none, [27, 23]⟩,
    ⟨(some 61), (.mv (.s 9)), (some (60, true)), [28]⟩,
    ⟨(some 62), (.bin .eql (.s 61) (.c (.int .i64 0))), (some (60, true)), [29, 28]⟩,
    ⟨(some 63), (.pick (.s 60) (.s 62) (.c (.bool false))), none, [28, 30]⟩,
    ⟨(some 64), (.mv (.s 63)), none, [31, 28]⟩,
    ⟨(some 65), (.lda 2 none (.s 3)), (some (64, true)), [32]⟩,
    ⟨(some 66), (.call (.c (.fn 157 [])) [(.c (.int .u16 1))]), (some (64, true)), [32, 32]⟩,
    ⟨(some 67), (.call (.c (.fn 144 [])) [(.s 65), (.s 66)]), (some (64, true)), [33, 34, 34, 32]⟩,
    ⟨(some 68), (.pick (.s 64) (.s 67) (.c (.bool false))), none, [32, 35]⟩,
    ⟨(some 0), (.mv (.s 68)), none, [36, 35, 0, 1, 2, 3, 4, 5, 6, 7, 8, 9, 10, 11, 12, 13, 14, 15, 16, 17, 18, 19, 20, 21, 22, 23, 24, 25, 26, 27, 28, 29, 30, 31, 32, 33, 34, 35, 36]⟩] true)
  .ret)))))), false, (some []), (some Sh.bool)⟩

/-- euphroe/attr.Lay -/
def k139 : Fun := ⟨1, 33, [0, 1, 2, 3, 4, 5, 11, 16], [(.tmp 2), (.tmp 3)],
  (.seq (.region [
    ⟨(some 1), (.box (.s 0)), none, []⟩,
    ⟨(some 2), (.mv (.c .nils)), none, []⟩,
    ⟨(some 3), (.mv (.c (.int .i64 0))), none, [1]⟩] false)
  (.seq (.region [
    ⟨(some 7), (.fad 1 (.s 1)), none, []⟩,
    ⟨(some 8), (.ldc (.s 7)), none, [0]⟩,
    ⟨(some 9), (.len false (.s 8)), none, [1]⟩,
    ⟨(some 10), (.bin .add (.c (.int .i64 4)) (.s 9)), none, [2]⟩,
    ⟨(some 4), (.mv (.s 10)), none, [3, 0, 1, 2, 3]⟩] false)
  (.seq (.block 0
   (.seq (.region [
     ⟨(some 12), (.fad 0 (.s 1)), none, []⟩,
     ⟨(some 13), (.ldc (.s 12)), none, [0]⟩,
     ⟨(some 14), (.call (.c (.fn 161 [])) [(.s 13)]), none, [1]⟩,
     ⟨(some 15), (.un .not (.s 14)), none, [2]⟩,
     ⟨(some 11), (.mv (.s 15)), none, [3, 2]⟩] false)
   (.cond (.s 11)
    (.seq (.region [
      ⟨(some 2), (.mv (.c .nils)), none, []⟩,
      ⟨(some 3), (.mv (.c (.int .i64 9))), none, [0, 0]⟩] false)
    .ret)
    (.seq (.region [
      ⟨(some 17), (.mv (.s 4)), none, []⟩,
      ⟨(some 18), (.bin .gtr (.s 17) (.c (.int .i64 4095))), none, [0]⟩,
      ⟨(some 16), (.mv (.s 18)), none, [1]⟩] false)
    (.cond (.s 16)
     (.seq (.region [
       ⟨(some 2), (.mv (.c .nils)), none, []⟩,
       ⟨(some 3), (.mv (.c (.int .i64 8))), none, [0, 0]⟩] false)
     .ret)
     .skip)))))
  (.seq (.region [
    ⟨(some 20), (.mv (.s 4)), none, []⟩,
    ⟨(some 21), (.cvi .u64 (.s 20)), none, [0]⟩,
    ⟨(some 22), (.call (.c (.fn 19 [])) [(.s 21), (.c (.int .i64 2)), (.c (.bool false))]), none, [1]⟩,
    ⟨(some 19), (.mv (.s 22)), none, [2]⟩,
    ⟨(some 23), (.ext (.s 19) 0), none, [3]⟩,
    ⟨(some 24), (.ext (.s 19) 1), none, [3]⟩,
    ⟨(some 5), (.mv (.s 23)), none, [4, 2, 0, 1, 2, 3, 4]⟩,
    ⟨(some 6), (.mv (.s 24)), none, [5, 6, 0, 1, 2, 3, 4, 5, 6]⟩] false)
  (.seq (.region [
    ⟨(some 25), (.fad 0 (.s 1)), none, []⟩,
    ⟨(some 26), (.ldc (.s 25)), none, [0]⟩,
    ⟨(some 27), (.bsl 2 1 (.ints .u8 [0, 0]) [(0, 1, (.c (.int .u8 0))), (1, 1, (.s 26))]), none, [1]⟩,
    ⟨(some 28), (.mv (.s 5)), none, []⟩,
    ⟨(some 29), (.fad 1 (.s 1)), none, []⟩,
    ⟨(some 30), (.ldc (.s 29)), none, [4]⟩,
    ⟨(some 31), (.bsl 3 1 (.vals [.nils, .nils, .nils]) [(0, 1, (.s 27)), (1, 1, (.s 28)), (2, 1, (.s 30))]), none, [2, 3, 5]⟩,
    ⟨(some 32), (.call (.c (.fn 46 [])) [(.s 31)]), none, [6]⟩,
    ⟨(some 2), (.mv (.s 32)), none, [7, 7, 0, 1, 2, 3, 4, 5, 6, 7]⟩,
    ⟨(some 3), (.mv (.c (.int .i64 0))), none, [8, 0, 1, 2, 3, 4, 5, 6, 7, 8]⟩] false)
  .ret))))), false, (some [(Sh.st (Sh.pr (Sh.int .u8) (Sh.sl (Sh.int .u8))))]), (some (Sh.tu (Sh.pr (Sh.sl (Sh.int .u8)) (Sh.int .i64))))⟩

/-- euphroe/euphroelaw17.theirs -/
def k140 : Fun := ⟨1, 8, [0, 1, 2], [(.cell 2 2 true none)],
  (.seq (.region [
    ⟨(some 1), (.box (.s 0)), none, []⟩,
    ⟨(some 2), (.new (.vals [(.int .u8 0), .nils])), none, []⟩] false)
  (.seq (.region [
    ⟨(some 3), (.fad 0 (.s 1)), none, []⟩,
    ⟨(some 4), (.ldc (.s 3)), none, [0]⟩,
    ⟨(some 5), (.fad 1 (.s 1)), none, []⟩,
    ⟨(some 6), (.ldc (.s 5)), none, [2]⟩,
    ⟨(some 7), (.build (.vals [(.int .u8 0), .nils]) [(0, 1, (.s 4)), (1, 1, (.s 6))]), none, [1, 3]⟩,
    ⟨none, (.stc 2 (.s 2) (.s 7)), none, [4, 0, 1, 2, 3, 4]⟩] false)
  .ret)), false, (some [(Sh.st (Sh.pr (Sh.int .u8) (Sh.sl (Sh.int .u8))))]), (some (Sh.st (Sh.pr (Sh.int .u8) (Sh.sl (Sh.int .u8)))))⟩

/-- euphroe/euphroeref17.Lay -/
def k141 : Fun := ⟨1, 25, [0, 1, 2, 3, 7, 11], [(.tmp 2), (.tmp 3)],
  (.seq (.region [
    ⟨(some 1), (.box (.s 0)), none, []⟩,
    ⟨(some 2), (.mv (.c .nils)), none, []⟩,
    ⟨(some 3), (.mv (.c (.int .i64 0))), none, [1]⟩] false)
  (.seq (.seq (.region [
    ⟨(some 4), (.fad 0 (.s 1)), none, []⟩,
    ⟨(some 5), (.ldc (.s 4)), none, [0]⟩,
    ⟨(some 6), (.call (.c (.fn 162 [])) [(.s 5)]), none, [1]⟩,
    ⟨(some 7), (.un .not (.s 6)), none, [2]⟩] false)
  (.cond (.s 7)
   (.seq (.region [
     ⟨(some 2), (.mv (.c .nils)), none, []⟩,
     ⟨(some 3), (.mv (.c (.int .i64 9))), none, [0, 0]⟩] false)
   .ret)
   .skip))
  (.seq (.seq (.region [
    ⟨(some 8), (.fad 1 (.s 1)), none, []⟩,
    ⟨(some 9), (.ldc (.s 8)), none, [0]⟩,
    ⟨(some 10), (.len false (.s 9)), none, [1]⟩,
    ⟨(some 11), (.bin .gtr (.s 10) (.c (.int .i64 4091))), none, [2]⟩] false)
  (.cond (.s 11)
   (.seq (.region [
     ⟨(some 2), (.mv (.c .nils)), none, []⟩,
     ⟨(some 3), (.mv (.c (.int .i64 8))), none, [0, 0]⟩] false)
   .ret)
   .skip))
  (.seq (.pre ⟨0, [(1, Sh.bool)], true, [23], []⟩ (.region [
    ⟨(some 12), (.fad 0 (.s 1)), none, []⟩,
    ⟨(some 13), (.ldc (.s 12)), none, [0]⟩,
    ⟨(some 14), (.bsl 2 1 (.ints .u8 [0, 0]) [(0, 1, (.c (.int .u8 0))), (1, 1, (.s 13))]), none, [1]⟩,
    ⟨(some 15), (.fad 1 (.s 1)), none, []⟩,
    ⟨(some 16), (.ldc (.s 15)), none, [3]⟩,
    ⟨(some 17), (.len false (.s 16)), none, [4]⟩,
    ⟨(some 18), (.bin .add (.c (.int .i64 4)) (.s 17)), none, [5]⟩,
    ⟨(some 19), (.cvi .u64 (.s 18)), none, [6]⟩,
    ⟨(some 20), (.call (.c (.fn 50 [])) [(.s 19), (.c (.int .i64 2))]), none, [7]⟩,
    ⟨(some 21), (.app 1 1 (.s 14) (.s 20)), none, [2, 8, 8]⟩,
    ⟨(some 22), (.fad 1 (.s 1)), none, []⟩,
    ⟨(some 23), (.ldr (.s 22)), none, [10]⟩,
    ⟨(some 24), (.app 1 1 (.s 21) (.s 23)), none, [9, 11, 9]⟩,
    ⟨(some 2), (.mv (.s 24)), none, [12, 12, 0, 1, 2, 3, 4, 5, 6, 7, 8, 9, 10, 11, 12]⟩,
    ⟨(some 3), (.mv (.c (.int .i64 0))), none, [13, 0, 1, 2, 3, 4, 5, 6, 7, 8, 9, 10, 11, 12, 13]⟩] true))
  .ret)))), false, (some [(Sh.st (Sh.pr (Sh.int .u8) (Sh.sl (Sh.int .u8))))]), (some (Sh.tu (Sh.pr (Sh.sl (Sh.int .u8)) (Sh.int .i64))))⟩

/-- euphroe/attr.Parse -/
def k142 : Fun := ⟨1, 56, [0, 2, 3, 4, 5, 7, 10, 20, 34, 41], [(.cell 2 2 true none), (.tmp 3), (.tmp 4)],
  (.seq (.region [
    ⟨(some 2), (.new (.vals [(.int .u8 0), .nils])), none, []⟩,
    ⟨(some 3), (.mv (.c (.int .i64 0))), none, []⟩,
    ⟨(some 4), (.mv (.c (.int .i64 0))), none, [1]⟩] false)
  (.seq (.seq (.region [
    ⟨(some 8), (.mv (.s 0)), none, []⟩,
    ⟨(some 9), (.len false (.s 8)), none, [0]⟩,
    ⟨(some 10), (.bin .lss (.s 9) (.c (.int .i64 4))), none, [1]⟩] false)
  (.cond (.s 10)
   (.seq (.region [
     ⟨(some 11), (.build (.vals [(.int .u8 0), .nils]) []), none, []⟩,
     ⟨none, (.stc 2 (.s 2) (.s 11)), none, [0, 0]⟩,
     ⟨(some 3), (.mv (.c (.int .i64 0))), none, [1, 0, 1]⟩,
     ⟨(some 4), (.mv (.c (.int .i64 4))), none, [2, 0, 1, 2]⟩] false)
   .ret)
   .skip))
  (.seq (.region [
    ⟨(some 13), (.mv (.s 0)), none, []⟩,
    ⟨(some 14), (.sls 1 (.s 13) (some (.c (.int .i64 2))) (some (.c (.int .i64 4))) none), none, [0]⟩,
    ⟨(some 15), (.call (.c (.fn 21 [])) [(.s 14), (.c (.bool false))]), none, [1]⟩,
    ⟨(some 12), (.mv (.s 15)), none, [2]⟩,
    ⟨(some 16), (.ext (.s 12) 0), none, [3]⟩,
    ⟨(some 17), (.ext (.s 12) 1), none, [3]⟩,
    ⟨(some 5), (.mv (.s 16)), none, [4, 2, 0, 1, 2, 3, 4]⟩,
    ⟨(some 6), (.mv (.s 17)), none, [5, 6, 0, 1, 2, 3, 4, 5, 6]⟩] false)
  (.seq (.region [
    ⟨(some 18), (.mv (.s 5)), none, []⟩,
    ⟨(some 19), (.cvi .i64 (.s 18)), none, [0]⟩,
    ⟨(some 7), (.mv (.s 19)), none, [1, 0, 1]⟩] false)
  (.seq (.block 0
   (.seq (.region [
     ⟨(some 21), (.mv (.s 0)), none, []⟩,
     ⟨(some 22), (.iad 1 (.s 21) (.c (.int .i64 0))), none, [0]⟩,
     ⟨(some 23), (.ldc (.s 22)), none, [1]⟩,
     ⟨(some 24), (.bin .neq (.s 23) (.c (.int .u8 0))), none, [2]⟩,
     ⟨(some 25), (.mv (.s 24)), none, [3]⟩,
     ⟨(some 26), (.mv (.s 7)), (some (25, false)), [4]⟩,
     ⟨(some 27), (.bin .lss (.s 26) (.c (.int .i64 4))), (some (25, false)), [5, 4]⟩,
     ⟨(some 28), (.pick (.s 25) (.c (.bool true)) (.s 27)), none, [4, 6]⟩,
     ⟨(some 29), (.mv (.s 28)), none, [7, 4]⟩,
     ⟨(some 30), (.mv (.s 7)), (some (29, false)), [8]⟩,
     ⟨(some 31), (.bin .gtr (.s 30) (.c (.int .i64 4095))), (some (29, false)), [9, 8]⟩,
     ⟨(some 32), (.pick (.s 29) (.c (.bool true)) (.s 31)), none, [8, 10]⟩,
     ⟨(some 20), (.mv (.s 32)), none, [11, 8]⟩] false)
   (.cond (.s 20)
    (.seq (.region [
      ⟨(some 33), (.build (.vals [(.int .u8 0), .nils]) []), none, []⟩,
      ⟨none, (.stc 2 (.s 2) (.s 33)), none, [0, 0]⟩,
      ⟨(some 3), (.mv (.c (.int .i64 0))), none, [1, 0, 1]⟩,
      ⟨(some 4), (.mv (.c (.int .i64 3))), none, [2, 0, 1, 2]⟩] false)
    .ret)
    (.seq (.region [
      ⟨(some 35), (.mv (.s 0)), none, []⟩,
      ⟨(some 36), (.iad 1 (.s 35) (.c (.int .i64 1))), none, [0]⟩,
      ⟨(some 37), (.ldc (.s 36)), none, [1]⟩,
      ⟨(some 38), (.call (.c (.fn 161 [])) [(.s 37)]), none, [2]⟩,
      ⟨(some 39), (.un .not (.s 38)), none, [3]⟩,
      ⟨(some 34), (.mv (.s 39)), none, [4, 3]⟩] false)
    (.cond (.s 34)
     (.seq (.region [
       ⟨(some 40), (.build (.vals [(.int .u8 0), .nils]) []), none, []⟩,
       ⟨none, (.stc 2 (.s 2) (.s 40)), none, [0, 0]⟩,
       ⟨(some 3), (.mv (.c (.int .i64 0))), none, [1, 0, 1]⟩,
       ⟨(some 4), (.mv (.c (.int .i64 9))), none, [2, 0, 1, 2]⟩] false)
     .ret)
     (.seq (.region [
       ⟨(some 42), (.mv (.s 0)), none, []⟩,
       ⟨(some 43), (.len false (.s 42)), none, [0]⟩,
       ⟨(some 44), (.mv (.s 7)), none, []⟩,
       ⟨(some 45), (.bin .lss (.s 43) (.s 44)), none, [1, 2]⟩,
       ⟨(some 41), (.mv (.s 45)), none, [3]⟩] false)
     (.cond (.s 41)
      (.seq (.region [
        ⟨(some 46), (.build (.vals [(.int .u8 0), .nils]) []), none, []⟩,
        ⟨none, (.stc 2 (.s 2) (.s 46)), none, [0, 0]⟩,
        ⟨(some 3), (.mv (.c (.int .i64 0))), none, [1, 0, 1]⟩,
        ⟨(some 4), (.mv (.c (.int .i64 4))), none, [2, 0, 1, 2]⟩] false)
      .ret)
      .skip)))))))
  (.seq (.region [
    ⟨(some 47), (.mv (.s 0)), none, []⟩,
    ⟨(some 48), (.iad 1 (.s 47) (.c (.int .i64 1))), none, [0]⟩,
    ⟨(some 49), (.ldc (.s 48)), none, [1]⟩,
    ⟨(some 50), (.mv (.s 0)), none, []⟩,
    ⟨(some 51), (.mv (.s 7)), none, []⟩,
    ⟨(some 52), (.sls 1 (.s 50) (some (.c (.int .i64 4))) (some (.s 51)) none), none, [3, 4]⟩,
    ⟨(some 53), (.call (.c (.fn 108 [])) [(.s 52)]), none, [5]⟩,
    ⟨(some 54), (.build (.vals [(.int .u8 0), .nils]) [(0, 1, (.s 49)), (1, 1, (.s 53))]), none, [2, 6]⟩,
    ⟨(some 55), (.mv (.s 7)), none, []⟩,
    ⟨none, (.stc 2 (.s 2) (.s 54)), none, [7, 6, 0, 1, 2, 3, 4, 5, 6, 7]⟩,
    ⟨(some 3), (.mv (.s 55)), none, [8, 9, 0, 1, 2, 3, 4, 5, 6, 7, 8, 9]⟩,
    ⟨(some 4), (.mv (.c (.int .i64 0))), none, [10, 0, 1, 2, 3, 4, 5, 6, 7, 8, 9, 10]⟩] true)
  .ret)))))), false, (some [(Sh.sl (Sh.int .u8))]), (some (Sh.tu (Sh.pr (Sh.st (Sh.pr (Sh.int .u8) (Sh.sl (Sh.int .u8)))) (Sh.pr (Sh.int .i64) (Sh.int .i64)))))⟩

/-- euphroe/euphroeref17.Parse -/
def k143 : Fun := ⟨1, 46, [0, 2, 3, 4, 5, 8, 25, 31, 36], [(.cell 2 2 true none), (.tmp 3), (.tmp 4)],
  (.seq (.region [
    ⟨(some 2), (.new (.vals [(.int .u8 0), .nils])), none, []⟩,
    ⟨(some 3), (.mv (.c (.int .i64 0))), none, []⟩,
    ⟨(some 4), (.mv (.c (.int .i64 0))), none, [1]⟩] false)
  (.seq (.seq (.region [
    ⟨(some 6), (.mv (.s 0)), none, []⟩,
    ⟨(some 7), (.len false (.s 6)), none, [0]⟩,
    ⟨(some 8), (.bin .lss (.s 7) (.c (.int .i64 4))), none, [1]⟩] false)
  (.cond (.s 8)
   (.seq (.region [
     ⟨(some 9), (.build (.vals [(.int .u8 0), .nils]) []), none, []⟩,
     ⟨none, (.stc 2 (.s 2) (.s 9)), none, [0, 0]⟩,
     ⟨(some 3), (.mv (.c (.int .i64 0))), none, [1, 0, 1]⟩,
     ⟨(some 4), (.mv (.c (.int .i64 4))), none, [2, 0, 1, 2]⟩] false)
   .ret)
   .skip))
  (.seq (.region [
    ⟨(some 10), (.mv (.s 0)), none, []⟩,
    ⟨(some 11), (.sls 1 (.s 10) (some (.c (.int .i64 2))) (some (.c (.int .i64 4))) none), none, [0]⟩,
    ⟨(some 12), (.call (.c (.fn 51 [])) [(.s 11)]), none, [1]⟩,
    ⟨(some 13), (.cvi .i64 (.s 12)), none, [2]⟩,
    ⟨(some 5), (.mv (.s 13)), none, [3, 2, 0, 1, 2, 3]⟩] false)
  (.seq (.seq (.region [
    ⟨(some 14), (.mv (.s 0)), none, []⟩,
    ⟨(some 15), (.iad 1 (.s 14) (.c (.int .i64 0))), none, [0]⟩,
    ⟨(some 16), (.ldc (.s 15)), none, [1]⟩,
    ⟨(some 17), (.bin .neq (.s 16) (.c (.int .u8 0))), none, [2]⟩,
    ⟨(some 18), (.mv (.s 17)), none, [3]⟩,
    ⟨(some 19), (.mv (.s 5)), (some (18, false)), [4]⟩,
    ⟨(some 20), (.bin .lss (.s 19) (.c (.int .i64 4))), (some (18, false)), [5, 4]⟩,
    ⟨(some 21), (.pick (.s 18) (.c (.bool true)) (.s 20)), none, [4, 6]⟩,
    ⟨(some 22), (.mv (.s 21)), none, [7, 4]⟩,
    ⟨(some 23), (.mv (.s 5)), (some (22, false)), [8]⟩,
    ⟨(some 24), (.bin .gtr (.s 23) (.c (.int .i64 4095))), (some (22, false)), [9, 8]⟩,
    ⟨(some 25), (.pick (.s 22) (.c (.bool true)) (.s 24)), none, [8, 10]⟩] false)
  (.cond (.s 25)
   (.seq (.region [
     ⟨(some 26), (.build (.vals [(.int .u8 0), .nils]) []), none, []⟩,
     ⟨none, (.stc 2 (.s 2) (.s 26)), none, [0, 0]⟩,
     ⟨(some 3), (.mv (.c (.int .i64 0))), none, [1, 0, 1]⟩,
     ⟨(some 4), (.mv (.c (.int .i64 3))), none, [2, 0, 1, 2]⟩] false)
   .ret)
   .skip))
  (.seq (.seq (.region [
    ⟨(some 27), (.mv (.s 0)), none, []⟩,
    ⟨(some 28), (.iad 1 (.s 27) (.c (.int .i64 1))), none, [0]⟩,
    ⟨(some 29), (.ldc (.s 28)), none, [1]⟩,
    ⟨(some 30), (.call (.c (.fn 162 [])) [(.s 29)]), none, [2]⟩,
    ⟨(some 31), (.un .not (.s 30)), none, [3]⟩] false)
  (.cond (.s 31)
   (.seq (.region [
     ⟨(some 32), (.build (.vals [(.int .u8 0), .nils]) []), none, []⟩,
     ⟨none, (.stc 2 (.s 2) (.s 32)), none, [0, 0]⟩,
     ⟨(some 3), (.mv (.c (.int .i64 0))), none, [1, 0, 1]⟩,
     ⟨(some 4), (.mv (.c (.int .i64 9))), none, [2, 0, 1, 2]⟩] false)
   .ret)
   .skip))
  (.seq (.seq (.region [
    ⟨(some 33), (.mv (.s 0)), none, []⟩,
    ⟨(some 34), (.len false (.s 33)), none, [0]⟩,
    ⟨(some 35), (.mv (.s 5)), none, []⟩,
    ⟨(some 36), (.bin .lss (.s 34) (.s 35)), none, [1, 2]⟩] false)
  (.cond (.s 36)
   (.seq (.region [
     ⟨(some 37), (.build (.vals [(.int .u8 0), .nils]) []), none, []⟩,
     ⟨none, (.stc 2 (.s 2) (.s 37)), none, [0, 0]⟩,
     ⟨(some 3), (.mv (.c (.int .i64 0))), none, [1, 0, 1]⟩,
     ⟨(some 4), (.mv (.c (.int .i64 4))), none, [2, 0, 1, 2]⟩] false)
   .ret)
   .skip))
  (.seq (.region [
    ⟨(some 38), (.mv (.s 0)), none, []⟩,
    ⟨(some 39), (.iad 1 (.s 38) (.c (.int .i64 1))), none, [0]⟩,
    ⟨(some 40), (.ldc (.s 39)), none, [1]⟩,
    ⟨(some 41), (.mv (.s 0)), none, []⟩,
    ⟨(some 42), (.mv (.s 5)), none, []⟩,
    ⟨(some 43), (.sls 1 (.s 41) (some (.c (.int .i64 4))) (some (.s 42)) none), none, [3, 4]⟩,
    ⟨(some 44), (.build (.vals [(.int .u8 0), .nils]) [(0, 1, (.s 40)), (1, 1, (.s 43))]), none, [2, 5]⟩,
    ⟨(some 45), (.mv (.s 5)), none, []⟩,
    ⟨none, (.stc 2 (.s 2) (.s 44)), none, [6, 0, 1, 2, 3, 4, 5, 6]⟩,
    ⟨(some 3), (.mv (.s 45)), none, [7, 8, 0, 1, 2, 3, 4, 5, 6, 7, 8]⟩,
    ⟨(some 4), (.mv (.c (.int .i64 0))), none, [9, 0, 1, 2, 3, 4, 5, 6, 7, 8, 9]⟩] true)
  .ret))))))), false, (some [(Sh.sl (Sh.int .u8))]), (some (Sh.tu (Sh.pr (Sh.st (Sh.pr (Sh.int .u8) (Sh.sl (Sh.int .u8)))) (Sh.pr (Sh.int .i64) (Sh.int .i64)))))⟩

/-- euphroe/attr.Same -/
def k144 : Fun := ⟨2, 17, [0, 1, 2, 3, 4], [(.tmp 4)],
  (.seq (.region [
    ⟨(some 2), (.box (.s 0)), none, []⟩,
    ⟨(some 3), (.box (.s 1)), none, []⟩,
    ⟨(some 4), (.mv (.c (.bool false))), none, []⟩] false)
  (.seq (.region [
    ⟨(some 5), (.fad 0 (.s 2)), none, []⟩,
    ⟨(some 6), (.ldc (.s 5)), none, [0]⟩,
    ⟨(some 7), (.fad 0 (.s 3)), none, []⟩,
    ⟨(some 8), (.ldc (.s 7)), none, [2]⟩,
    ⟨(some 9), (.bin .eql (.s 6) (.s 8)), none, [1, 3]⟩,
    ⟨(some 10), (.mv (.s 9)), none, [4]⟩,
    ⟨(some 11), (.fad 1 (.s 2)), (some (10, true)), [5]⟩,
    ⟨(some 12), (.ldc (.s 11)), (some (10, true)), [6, 5]⟩,
    ⟨(some 13), (.fad 1 (.s 3)), (some (10, true)), [5]⟩,
    ⟨(some 14), (.ldc (.s 13)), (some (10, true)), [8, 5]⟩,
    ⟨(some 15), (.call (.c (.fn 160 [])) [(.s 12), (.s 14)]), (some (10, true)), [7, 9, 5, 5]⟩,
    ⟨(some 16), (.pick (.s 10) (.s 15) (.c (.bool false))), none, [5, 10]⟩,
    ⟨(some 4), (.mv (.s 16)), none, [11, 10, 0, 1, 2, 3, 4, 5, 6, 7, 8, 9, 10, 11]⟩] false)
  .ret)), false, (some [(Sh.st (Sh.pr (Sh.int .u8) (Sh.sl (Sh.int .u8)))), (Sh.st (Sh.pr (Sh.int .u8) (Sh.sl (Sh.int .u8))))]), (some Sh.bool)⟩

/-- euphroe/attr.Check -/
def k145 : Fun := ⟨1, 56, [0, 1, 2, 3, 4, 5, 6, 7, 16, 21, 27, 33, 55], [(.tmp 2)],
  (.seq (.region [
    ⟨(some 1), (.box (.s 0)), none, []⟩,
    ⟨(some 2), (.mv (.c (.int .i64 0))), none, []⟩] false)
  (.seq (.region [
    ⟨(some 9), (.fad 0 (.s 1)), none, []⟩,
    ⟨(some 10), (.ldc (.s 9)), none, [0]⟩,
    ⟨(some 11), (.call (.c (.fn 163 [])) [(.s 10)]), none, [1]⟩,
    ⟨(some 8), (.mv (.s 11)), none, [2]⟩,
    ⟨(some 12), (.ext (.s 8) 0), none, [3]⟩,
    ⟨(some 13), (.ext (.s 8) 1), none, [3]⟩,
    ⟨(some 14), (.ext (.s 8) 2), none, [3]⟩,
    ⟨(some 15), (.ext (.s 8) 3), none, [3]⟩,
    ⟨(some 3), (.mv (.s 12)), none, [4, 2, 0, 1, 2, 3, 4]⟩,
    ⟨(some 4), (.mv (.s 13)), none, [5, 8, 0, 1, 2, 3, 4, 5, 8]⟩,
    ⟨(some 5), (.mv (.s 14)), none, [6, 9, 0, 1, 2, 3, 4, 5, 6, 8, 9]⟩,
    ⟨(some 6), (.mv (.s 15)), none, [7, 10, 0, 1, 2, 3, 4, 5, 6, 7, 8, 9, 10]⟩] false)
  (.seq (.block 0
   (.seq (.region [
     ⟨(some 17), (.fad 0 (.s 1)), none, []⟩,
     ⟨(some 18), (.ldc (.s 17)), none, [0]⟩,
     ⟨(some 19), (.call (.c (.fn 161 [])) [(.s 18)]), none, [1]⟩,
     ⟨(some 20), (.un .not (.s 19)), none, [2]⟩,
     ⟨(some 16), (.mv (.s 20)), none, [3, 2]⟩] false)
   (.cond (.s 16)
    (.seq (.region [
      ⟨(some 2), (.mv (.c (.int .i64 9))), none, []⟩] false)
    .ret)
    (.seq (.region [
      ⟨(some 22), (.fad 1 (.s 1)), none, []⟩,
      ⟨(some 23), (.ldc (.s 22)), none, [0]⟩,
      ⟨(some 24), (.len false (.s 23)), none, [1]⟩,
      ⟨(some 25), (.mv (.s 3)), none, []⟩,
      ⟨(some 26), (.bin .lss (.s 24) (.s 25)), none, [2, 3]⟩,
      ⟨(some 21), (.mv (.s 26)), none, [4]⟩] false)
    (.cond (.s 21)
     (.seq (.region [
       ⟨(some 2), (.mv (.c (.int .i64 4))), none, []⟩] false)
     .ret)
     (.seq (.region [
       ⟨(some 28), (.fad 1 (.s 1)), none, []⟩,
       ⟨(some 29), (.ldc (.s 28)), none, [0]⟩,
       ⟨(some 30), (.len false (.s 29)), none, [1]⟩,
       ⟨(some 31), (.mv (.s 4)), none, []⟩,
       ⟨(some 32), (.bin .gtr (.s 30) (.s 31)), none, [2, 3]⟩,
       ⟨(some 27), (.mv (.s 32)), none, [4]⟩] false)
     (.cond (.s 27)
      (.seq (.region [
        ⟨(some 2), (.mv (.c (.int .i64 3))), none, []⟩] false)
      .ret)
      (.seq (.region [
        ⟨(some 34), (.fad 0 (.s 1)), none, []⟩,
        ⟨(some 35), (.ldc (.s 34)), none, [0]⟩,
        ⟨(some 36), (.bin .eql (.s 35) (.c (.int .u8 1))), none, [1]⟩,
        ⟨(some 33), (.mv (.s 36)), none, [2]⟩] false)
      (.cond (.s 33)
       (.seq (.region [
         ⟨(some 2), (.mv (.c (.int .i64 0))), none, []⟩] false)
       .ret)
       .skip)))))))))
  (.seq (.region [
    ⟨(some 37), (.fad 1 (.s 1)), none, []⟩,
    ⟨(some 38), (.ldc (.s 37)), none, [0]⟩,
    ⟨(some 39), (.iad 1 (.s 38) (.c (.int .i64 3))), none, [1]⟩,
    ⟨(some 40), (.ldc (.s 39)), none, [2]⟩,
    ⟨(some 7), (.mv (.s 40)), none, [3, 0, 1, 2, 3]⟩] false)
  (.seq (.seq (.region [
    ⟨(some 41), (.fad 1 (.s 1)), none, []⟩,
    ⟨(some 42), (.ldc (.s 41)), none, [0]⟩,
    ⟨(some 43), (.mks (.ints .u8 [0]) 1 1 (.c (.int .i64 3)) (.c (.int .i64 3))), none, []⟩,
    ⟨(some 44), (.call (.c (.fn 164 [])) [(.s 42), (.s 43)]), none, [1, 2]⟩,
    ⟨(some 45), (.un .not (.s 44)), none, [3]⟩,
    ⟨(some 46), (.mv (.s 45)), none, [4, 3]⟩,
    ⟨(some 47), (.mv (.s 7)), (some (46, false)), [5]⟩,
    ⟨(some 48), (.mv (.s 5)), (some (46, false)), [5]⟩,
    ⟨(some 49), (.bin .lss (.s 47) (.s 48)), (some (46, false)), [6, 7, 5]⟩,
    ⟨(some 50), (.pick (.s 46) (.c (.bool true)) (.s 49)), none, [5, 8]⟩,
    ⟨(some 51), (.mv (.s 50)), none, [9, 5]⟩,
    ⟨(some 52), (.mv (.s 7)), (some (51, false)), [10]⟩,
    ⟨(some 53), (.mv (.s 6)), (some (51, false)), [10]⟩,
    ⟨(some 54), (.bin .gtr (.s 52) (.s 53)), (some (51, false)), [11, 12, 10]⟩,
    ⟨(some 55), (.pick (.s 51) (.c (.bool true)) (.s 54)), none, [10, 13]⟩] true)
  (.cond (.s 55)
   (.seq (.region [
     ⟨(some 2), (.mv (.c (.int .i64 3))), none, []⟩] false)
   .ret)
   .skip))
  (.seq (.region [
    ⟨(some 2), (.mv (.c (.int .i64 0))), none, []⟩] false)
  .ret)))))), false, (some [(Sh.st (Sh.pr (Sh.int .u8) (Sh.sl (Sh.int .u8))))]), (some (Sh.int .i64))⟩

/-- euphroe/euphroeref17.Check -/
def k146 : Fun := ⟨1, 79, [0, 1, 2, 3, 4, 5, 9, 26, 31, 34, 78], [(.tmp 2)],
  (.seq (.region [
    ⟨(some 1), (.box (.s 0)), none, []⟩,
    ⟨(some 2), (.mv (.c (.int .i64 0))), none, []⟩] false)
  (.seq (.seq (.region [
    ⟨(some 6), (.fad 0 (.s 1)), none, []⟩,
    ⟨(some 7), (.ldc (.s 6)), none, [0]⟩,
    ⟨(some 8), (.call (.c (.fn 162 [])) [(.s 7)]), none, [1]⟩,
    ⟨(some 9), (.un .not (.s 8)), none, [2]⟩] false)
  (.cond (.s 9)
   (.seq (.region [
     ⟨(some 2), (.mv (.c (.int .i64 9))), none, []⟩] false)
   .ret)
   .skip))
  (.seq (.region [
    ⟨(some 10), (.bsl 4 1 (.ints .i64 [0, 0, 0, 0]) [(0, 1, (.c (.int .i64 2))), (1, 1, (.c (.int .i64 8))), (2, 1, (.c (.int .i64 100))), (3, 1, (.c (.int .i64 36)))]), none, []⟩,
    ⟨(some 11), (.fad 0 (.s 1)), none, []⟩,
    ⟨(some 12), (.ldc (.s 11)), none, [1]⟩,
    ⟨(some 13), (.bin .sub (.s 12) (.c (.int .u8 1))), none, [2]⟩,
    ⟨(some 14), (.iad 1 (.s 10) (.s 13)), none, [0, 3]⟩,
    ⟨(some 15), (.ldc (.s 14)), none, [4]⟩,
    ⟨(some 3), (.mv (.s 15)), none, [5, 0, 1, 2, 3, 4, 5]⟩] false)
  (.seq (.region [
    ⟨(some 16), (.bsl 4 1 (.ints .i64 [0, 0, 0, 0]) [(0, 1, (.c (.int .i64 2))), (1, 1, (.c (.int .i64 72))), (2, 1, (.c (.int .i64 100))), (3, 1, (.c (.int .i64 36)))]), none, []⟩,
    ⟨(some 17), (.fad 0 (.s 1)), none, []⟩,
    ⟨(some 18), (.ldc (.s 17)), none, [1]⟩,
    ⟨(some 19), (.bin .sub (.s 18) (.c (.int .u8 1))), none, [2]⟩,
    ⟨(some 20), (.iad 1 (.s 16) (.s 19)), none, [0, 3]⟩,
    ⟨(some 21), (.ldc (.s 20)), none, [4]⟩,
    ⟨(some 4), (.mv (.s 21)), none, [5, 0, 1, 2, 3, 4, 5]⟩] false)
  (.seq (.seq (.region [
    ⟨(some 22), (.fad 1 (.s 1)), none, []⟩,
    ⟨(some 23), (.ldc (.s 22)), none, [0]⟩,
    ⟨(some 24), (.len false (.s 23)), none, [1]⟩,
    ⟨(some 25), (.mv (.s 3)), none, []⟩,
    ⟨(some 26), (.bin .lss (.s 24) (.s 25)), none, [2, 3]⟩] false)
  (.cond (.s 26)
   (.seq (.region [
     ⟨(some 2), (.mv (.c (.int .i64 4))), none, []⟩] false)
   .ret)
   .skip))
  (.seq (.seq (.region [
    ⟨(some 27), (.fad 1 (.s 1)), none, []⟩,
    ⟨(some 28), (.ldc (.s 27)), none, [0]⟩,
    ⟨(some 29), (.len false (.s 28)), none, [1]⟩,
    ⟨(some 30), (.mv (.s 4)), none, []⟩,
    ⟨(some 31), (.bin .gtr (.s 29) (.s 30)), none, [2, 3]⟩] false)
  (.cond (.s 31)
   (.seq (.region [
     ⟨(some 2), (.mv (.c (.int .i64 3))), none, []⟩] false)
   .ret)
   .skip))
  (.seq (.seq (.region [
    ⟨(some 32), (.fad 0 (.s 1)), none, []⟩,
    ⟨(some 33), (.ldc (.s 32)), none, [0]⟩,
    ⟨(some 34), (.bin .eql (.s 33) (.c (.int .u8 1))), none, [1]⟩] false)
  (.cond (.s 34)
   (.seq (.region [
     ⟨(some 2), (.mv (.c (.int .i64 0))), none, []⟩] false)
   .ret)
   .skip))
  (.seq (.region [
    ⟨(some 35), (.fad 1 (.s 1)), none, []⟩,
    ⟨(some 36), (.ldc (.s 35)), none, [0]⟩,
    ⟨(some 37), (.iad 1 (.s 36) (.c (.int .i64 3))), none, [1]⟩,
    ⟨(some 38), (.ldc (.s 37)), none, [2]⟩,
    ⟨(some 5), (.mv (.s 38)), none, [3, 0, 1, 2, 3]⟩] false)
  (.seq (.seq (.region [
    ⟨(some 39), (.fad 1 (.s 1)), none, []⟩,
    ⟨(some 40), (.ldc (.s 39)), none, [0]⟩,
    ⟨(some 41), (.sls 1 (.s 40) none (some (.c (.int .i64 3))) none), none, [1]⟩,
    ⟨(some 42), (.call (.c (.fn 165 [])) [(.s 41)]), none, [2]⟩,
    ⟨(some 43), (.un .not (.s 42)), none, [3]⟩,
    ⟨(some 44), (.mv (.s 43)), none, [4, 3]⟩,
    ⟨(some 45), (.fad 0 (.s 1)), (some (44, false)), [5]⟩,
    ⟨(some 46), (.ldc (.s 45)), (some (44, false)), [6, 5]⟩,
    ⟨(some 47), (.bin .eql (.s 46) (.c (.int .u8 2))), (some (44, false)), [7, 5]⟩,
    ⟨(some 48), (.mv (.s 47)), (some (44, false)), [8, 5, 5]⟩,
    ⟨(some 49), (.mv (.s 5)), (some (48, true)), [9]⟩,
    ⟨(some 50), (.bin .gtr (.s 49) (.c (.int .u8 4))), (some (48, true)), [10, 9]⟩,
    ⟨(some 51), (.pick (.s 48) (.s 50) (.c (.bool false))), (some (44, false)), [9, 11, 5]⟩,
    ⟨(some 52), (.pick (.s 44) (.c (.bool true)) (.s 51)), none, [5, 12]⟩,
    ⟨(some 53), (.mv (.s 52)), none, [13, 9]⟩,
    ⟨(some 54), (.fad 0 (.s 1)), (some (53, false)), [14]⟩,
    ⟨(some 55), (.ldc (.s 54)), (some (53, false)), [15, 14]⟩,
    ⟨(some 56), (.bin .eql (.s 55) (.c (.int .u8 3))), (some (53, false)), [16, 14]⟩,
    ⟨(some 57), (.mv (.s 56)), (some (53, false)), [17, 14, 14]⟩,
    ⟨(some 58), (.mv (.s 5)), (some (57, true)), [18]⟩,
    ⟨(some 59), (.bin .neq (.s 58) (.c (.int .u8 1))), (some (57, true)), [19, 18]⟩,
    ⟨(some 60), (.pick (.s 57) (.s 59) (.c (.bool false))), (some (53, false)), [18, 20, 14]⟩,
    ⟨(some 61), (.mv (.s 60)), (some (53, false)), [21, 18, 14]⟩,
    ⟨(some 62), (.mv (.s 5)), (some (61, true)), [22]⟩,
    ⟨(some 63), (.bin .neq (.s 62) (.c (.int .u8 2))), (some (61, true)), [23, 22]⟩,
    ⟨(some 64), (.pick (.s 61) (.s 63) (.c (.bool false))), (some (53, false)), [22, 24, 14]⟩,
    ⟨(some 65), (.pick (.s 53) (.c (.bool true)) (.s 64)), none, [14, 25]⟩,
    ⟨(some 66), (.mv (.s 65)), none, [26, 22]⟩,
    ⟨(some 67), (.fad 0 (.s 1)), (some (66, false)), [27]⟩,
    ⟨(some 68), (.ldc (.s 67)), (some (66, false)), [28, 27]⟩,
    ⟨(some 69), (.bin .eql (.s 68) (.c (.int .u8 4))), (some (66, false)), [29, 27]⟩,
    ⟨(some 70), (.mv (.s 69)), (some (66, false)), [30, 27, 27]⟩,
    ⟨(some 71), (.mv (.s 5)), (some (70, true)), [31]⟩,
    ⟨(some 72), (.bin .lss (.s 71) (.c (.int .u8 1))), (some (70, true)), [32, 31]⟩,
    ⟨(some 73), (.mv (.s 72)), (some (70, true)), [33, 31, 31]⟩,
    ⟨(some 74), (.mv (.s 5)), (some (73, false)), [34]⟩,
    ⟨(some 75), (.bin .gtr (.s 74) (.c (.int .u8 3))), (some (73, false)), [35, 34]⟩,
    ⟨(some 76), (.pick (.s 73) (.c (.bool true)) (.s 75)), (some (70, true)), [34, 36, 31]⟩,
    ⟨(some 77), (.pick (.s 70) (.s 76) (.c (.bool false))), (some (66, false)), [31, 37, 27]⟩,
    ⟨(some 78), (.pick (.s 66) (.c (.bool true)) (.s 77)), none, [27, 38]⟩] false)
  (.cond (.s 78)
   (.seq (.region [
     ⟨(some 2), (.mv (.c (.int .i64 3))), none, []⟩] false)
   .ret)
   .skip))
  (.seq (.region [
    ⟨(some 2), (.mv (.c (.int .i64 0))), none, []⟩] false)
  .ret)))))))))), false, (some [(Sh.st (Sh.pr (Sh.int .u8) (Sh.sl (Sh.int .u8))))]), (some (Sh.int .i64))⟩

/-- euphroe/attr.OfStatus -/
def k147 : Fun := ⟨1, 26, [0, 1, 2, 3], [(.cell 2 2 true none)],
  (.seq (.region [
    ⟨(some 1), (.box (.s 0)), none, []⟩,
    ⟨(some 2), (.new (.vals [(.int .u8 0), .nils])), none, []⟩] false)
  (.seq (.region [
    ⟨(some 6), (.fad 1 (.s 1)), none, []⟩,
    ⟨(some 7), (.ldc (.s 6)), none, [0]⟩,
    ⟨(some 8), (.cvi .u64 (.s 7)), none, [1]⟩,
    ⟨(some 9), (.call (.c (.fn 19 [])) [(.s 8), (.c (.int .i64 4)), (.c (.bool false))]), none, [2]⟩,
    ⟨(some 5), (.mv (.s 9)), none, [3]⟩,
    ⟨(some 10), (.ext (.s 5) 0), none, [4]⟩,
    ⟨(some 11), (.ext (.s 5) 1), none, [4]⟩,
    ⟨(some 3), (.mv (.s 10)), none, [5, 3, 0, 1, 2, 3, 4, 5]⟩,
    ⟨(some 4), (.mv (.s 11)), none, [6, 7, 0, 1, 2, 3, 4, 5, 6, 7]⟩] false)
  (.seq (.region [
    ⟨(some 12), (.fad 0 (.s 1)), none, []⟩,
    ⟨(some 13), (.ldc (.s 12)), none, [0]⟩,
    ⟨(some 14), (.call (.c (.fn 166 [])) [(.s 13)]), none, [1]⟩,
    ⟨(some 15), (.mv (.s 3)), none, []⟩,
    ⟨(some 16), (.fad 2 (.s 1)), none, []⟩,
    ⟨(some 17), (.ldc (.s 16)), none, [4]⟩,
    ⟨(some 18), (.fad 2 (.s 1)), none, []⟩,
    ⟨(some 19), (.ldc (.s 18)), none, [6]⟩,
    ⟨(some 20), (.len false (.s 19)), none, [7]⟩,
    ⟨(some 21), (.mnx false [(.s 20), (.c (.int .i64 64))]), none, [8]⟩,
    ⟨(some 22), (.sls 1 (.s 17) none (some (.s 21)) none), none, [5, 9]⟩,
    ⟨(some 23), (.bsl 3 1 (.vals [.nils, .nils, .nils]) [(0, 1, (.s 14)), (1, 1, (.s 15)), (2, 1, (.s 22))]), none, [2, 3, 10]⟩,
    ⟨(some 24), (.call (.c (.fn 46 [])) [(.s 23)]), none, [11, 2]⟩,
    ⟨(some 25), (.build (.vals [(.int .u8 0), .nils]) [(0, 1, (.c (.int .u8 2))), (1, 1, (.s 24))]), none, [12]⟩,
    ⟨none, (.stc 2 (.s 2) (.s 25)), none, [13, 12, 0, 1, 2, 3, 4, 5, 6, 7, 8, 9, 10, 11, 12, 13]⟩] true)
  .ret))), false, (some [(Sh.st (Sh.pr (Sh.int .u8) (Sh.pr (Sh.int .u32) (Sh.sl (Sh.int .u8)))))]), (some (Sh.st (Sh.pr (Sh.int .u8) (Sh.sl (Sh.int .u8)))))⟩

/-- euphroe/attr.OfBinding -/
def k148 : Fun := ⟨1, 15, [0, 1, 2], [(.cell 2 2 true none)],
  (.seq (.region [
    ⟨(some 1), (.box (.s 0)), none, []⟩,
    ⟨(some 2), (.new (.vals [(.int .u8 0), .nils])), none, []⟩] false)
  (.seq (.region [
    ⟨(some 3), (.fad 0 (.s 1)), none, []⟩,
    ⟨(some 4), (.ldc (.s 3)), none, [0]⟩,
    ⟨(some 5), (.call (.c (.fn 166 [])) [(.s 4)]), none, [1]⟩,
    ⟨(some 6), (.fad 1 (.s 1)), none, []⟩,
    ⟨(some 7), (.sla 32 1 (.s 6) none none none), none, [3]⟩,
    ⟨(some 8), (.fad 33 (.s 1)), none, []⟩,
    ⟨(some 9), (.sla 32 1 (.s 8) none none none), none, [5]⟩,
    ⟨(some 10), (.fad 65 (.s 1)), none, []⟩,
    ⟨(some 11), (.sla 32 1 (.s 10) none none none), none, [7]⟩,
    ⟨(some 12), (.bsl 4 1 (.vals [.nils, .nils, .nils, .nils]) [(0, 1, (.s 5)), (1, 1, (.s 7)), (2, 1, (.s 9)), (3, 1, (.s 11))]), none, [2, 4, 6, 8]⟩,
    ⟨(some 13), (.call (.c (.fn 46 [])) [(.s 12)]), none, [9, 2]⟩,
    ⟨(some 14), (.build (.vals [(.int .u8 0), .nils]) [(0, 1, (.c (.int .u8 3))), (1, 1, (.s 13))]), none, [10]⟩,
    ⟨none, (.stc 2 (.s 2) (.s 14)), none, [11, 10, 0, 1, 2, 3, 4, 5, 6, 7, 8, 9, 10, 11]⟩] true)
  .ret)), false, (some [(Sh.ar .u8)]), (some (Sh.st (Sh.pr (Sh.int .u8) (Sh.sl (Sh.int .u8)))))⟩

/-- euphroe/attr.OfAsk -/
def k149 : Fun := ⟨1, 11, [0, 1, 2], [(.cell 2 2 true none)],
  (.seq (.region [
    ⟨(some 1), (.box (.s 0)), none, []⟩,
    ⟨(some 2), (.new (.vals [(.int .u8 0), .nils])), none, []⟩] false)
  (.seq (.region [
    ⟨(some 3), (.fad 0 (.s 1)), none, []⟩,
    ⟨(some 4), (.ldc (.s 3)), none, [0]⟩,
    ⟨(some 5), (.call (.c (.fn 166 [])) [(.s 4)]), none, [1]⟩,
    ⟨(some 6), (.fad 1 (.s 1)), none, []⟩,
    ⟨(some 7), (.sla 32 1 (.s 6) none none none), none, [3]⟩,
    ⟨(some 8), (.bsl 2 1 (.vals [.nils, .nils]) [(0, 1, (.s 5)), (1, 1, (.s 7))]), none, [2, 4]⟩,
    ⟨(some 9), (.call (.c (.fn 46 [])) [(.s 8)]), none, [5, 2]⟩,
    ⟨(some 10), (.build (.vals [(.int .u8 0), .nils]) [(0, 1, (.c (.int .u8 4))), (1, 1, (.s 9))]), none, [6]⟩,
    ⟨none, (.stc 2 (.s 2) (.s 10)), none, [7, 6, 0, 1, 2, 3, 4, 5, 6, 7]⟩] true)
  .ret)), false, (some [(Sh.ar .u8)]), (some (Sh.st (Sh.pr (Sh.int .u8) (Sh.sl (Sh.int .u8)))))⟩

/-- euphroe/euphroeref17.Status -/
def k150 : Fun := ⟨3, 22, [0, 1, 2, 6, 7], [(.cell 6 2 true none)],
  (.seq (.region [
    ⟨(some 6), (.new (.vals [(.int .u8 0), .nils])), none, []⟩] false)
  (.seq (.region [
    ⟨(some 8), (.mv (.s 0)), none, []⟩,
    ⟨(some 9), (.bsl 4 1 (.ints .u8 [0, 0, 0, 0]) [(0, 1, (.c (.int .u8 0))), (1, 1, (.c (.int .u8 0))), (2, 1, (.c (.int .u8 0))), (3, 1, (.s 8))]), none, [0]⟩,
    ⟨(some 10), (.mv (.s 1)), none, []⟩,
    ⟨(some 11), (.cvi .u64 (.s 10)), none, [2]⟩,
    ⟨(some 12), (.call (.c (.fn 50 [])) [(.s 11), (.c (.int .i64 4))]), none, [3]⟩,
    ⟨(some 13), (.app 1 1 (.s 9) (.s 12)), none, [1, 4, 4]⟩,
    ⟨(some 7), (.mv (.s 13)), none, [5, 5, 0, 1, 2, 3, 4, 5]⟩] false)
  (.seq (.region [
    ⟨(some 14), (.mv (.s 7)), none, []⟩,
    ⟨(some 15), (.mv (.s 2)), none, []⟩,
    ⟨(some 16), (.mv (.s 2)), none, []⟩,
    ⟨(some 17), (.len false (.s 16)), none, [2]⟩,
    ⟨(some 18), (.mnx false [(.s 17), (.c (.int .i64 64))]), none, [3]⟩,
    ⟨(some 19), (.sls 1 (.s 15) none (some (.s 18)) none), none, [1, 4]⟩,
    ⟨(some 20), (.app 1 1 (.s 14) (.s 19)), none, [0, 5]⟩,
    ⟨(some 21), (.build (.vals [(.int .u8 0), .nils]) [(0, 1, (.c (.int .u8 2))), (1, 1, (.s 20))]), none, [6]⟩,
    ⟨none, (.stc 2 (.s 6) (.s 21)), none, [7, 6, 0, 1, 2, 3, 4, 5, 6, 7]⟩] false)
  .ret))), false, (some [(Sh.int .u8), (Sh.int .u32), (Sh.sl (Sh.int .u8))]), (some (Sh.st (Sh.pr (Sh.int .u8) (Sh.sl (Sh.int .u8)))))⟩

/-- euphroe/euphroeref17.Binding -/
def k151 : Fun := ⟨4, 20, [0, 1, 2, 3, 5, 6, 7, 8, 9], [(.cell 8 2 true none)],
  (.seq (.region [
    ⟨(some 5), (.box (.s 1)), none, []⟩,
    ⟨(some 6), (.box (.s 2)), none, []⟩,
    ⟨(some 7), (.box (.s 3)), none, []⟩,
    ⟨(some 8), (.new (.vals [(.int .u8 0), .nils])), none, []⟩] false)
  (.seq (.region [
    ⟨(some 10), (.mv (.s 0)), none, []⟩,
    ⟨(some 11), (.bsl 4 1 (.ints .u8 [0, 0, 0, 0]) [(0, 1, (.c (.int .u8 0))), (1, 1, (.c (.int .u8 0))), (2, 1, (.c (.int .u8 0))), (3, 1, (.s 10))]), none, [0]⟩,
    ⟨(some 12), (.sla 32 1 (.s 5) none none none), none, []⟩,
    ⟨(some 13), (.app 1 1 (.s 11) (.s 12)), none, [1, 2]⟩,
    ⟨(some 9), (.mv (.s 13)), none, [3, 3, 0, 1, 2, 3]⟩] false)
  (.seq (.region [
    ⟨(some 14), (.mv (.s 9)), none, []⟩,
    ⟨(some 15), (.sla 32 1 (.s 6) none none none), none, []⟩,
    ⟨(some 16), (.app 1 1 (.s 14) (.s 15)), none, [0, 1]⟩,
    ⟨(some 17), (.sla 32 1 (.s 7) none none none), none, []⟩,
    ⟨(some 18), (.app 1 1 (.s 16) (.s 17)), none, [2, 3, 2]⟩,
    ⟨(some 19), (.build (.vals [(.int .u8 0), .nils]) [(0, 1, (.c (.int .u8 3))), (1, 1, (.s 18))]), none, [4]⟩,
    ⟨none, (.stc 2 (.s 8) (.s 19)), none, [5, 4, 0, 1, 2, 3, 4, 5]⟩] true)
  .ret))), false, (some [(Sh.int .u8), (Sh.ar .u8), (Sh.ar .u8), (Sh.ar .u8)]), (some (Sh.st (Sh.pr (Sh.int .u8) (Sh.sl (Sh.int .u8)))))⟩

/-- euphroe/euphroeref17.Ask -/
def k152 : Fun := ⟨2, 10, [0, 1, 3, 4], [(.cell 4 2 true none)],
  (.seq (.region [
    ⟨(some 3), (.box (.s 1)), none, []⟩,
    ⟨(some 4), (.new (.vals [(.int .u8 0), .nils])), none, []⟩] false)
  (.seq (.region [
    ⟨(some 5), (.mv (.s 0)), none, []⟩,
    ⟨(some 6), (.bsl 4 1 (.ints .u8 [0, 0, 0, 0]) [(0, 1, (.c (.int .u8 0))), (1, 1, (.c (.int .u8 0))), (2, 1, (.c (.int .u8 0))), (3, 1, (.s 5))]), none, [0]⟩,
    ⟨(some 7), (.sla 32 1 (.s 3) none none none), none, []⟩,
    ⟨(some 8), (.app 1 1 (.s 6) (.s 7)), none, [1, 2]⟩,
    ⟨(some 9), (.build (.vals [(.int .u8 0), .nils]) [(0, 1, (.c (.int .u8 4))), (1, 1, (.s 8))]), none, [3]⟩,
    ⟨none, (.stc 2 (.s 4) (.s 9)), none, [4, 3, 0, 1, 2, 3, 4]⟩] false)
  .ret)), false, (some [(Sh.int .u8), (Sh.ar .u8)]), (some (Sh.st (Sh.pr (Sh.int .u8) (Sh.sl (Sh.int .u8)))))⟩

/-- euphroe/attr.ToStatus -/
def k153 : Fun := ⟨1, 31, [0, 1, 2, 3, 4, 5, 10], [(.cell 2 3 true none), (.tmp 3)],
  (.seq (.region [
    ⟨(some 1), (.box (.s 0)), none, []⟩,
    ⟨(some 2), (.new (.vals [(.int .u8 0), (.int .u32 0), .nils])), none, []⟩,
    ⟨(some 3), (.mv (.c (.int .i64 0))), none, []⟩] false)
  (.seq (.seq (.region [
    ⟨(some 7), (.lda 2 none (.s 1)), none, []⟩,
    ⟨(some 8), (.call (.c (.fn 167 [])) [(.s 7), (.c (.int .u8 2))]), none, [0]⟩,
    ⟨(some 4), (.mv (.s 8)), none, [1, 1, 0, 1]⟩] false)
  (.seq (.region [
    ⟨(some 9), (.mv (.s 4)), none, []⟩,
    ⟨(some 10), (.bin .neq (.s 9) (.c (.int .i64 0))), none, [0]⟩] false)
  (.cond (.s 10)
   (.seq (.region [
     ⟨(some 11), (.build (.vals [(.int .u8 0), (.int .u32 0), .nils]) []), none, []⟩,
     ⟨(some 12), (.mv (.s 4)), none, []⟩,
     ⟨none, (.stc 3 (.s 2) (.s 11)), none, [0, 0]⟩,
     ⟨(some 3), (.mv (.s 12)), none, [1, 2, 0, 1, 2]⟩] false)
   .ret)
   .skip)))
  (.seq (.region [
    ⟨(some 14), (.fad 1 (.s 1)), none, []⟩,
    ⟨(some 15), (.ldc (.s 14)), none, [0]⟩,
    ⟨(some 16), (.sls 1 (.s 15) (some (.c (.int .i64 4))) (some (.c (.int .i64 8))) none), none, [1]⟩,
    ⟨(some 17), (.call (.c (.fn 21 [])) [(.s 16), (.c (.bool false))]), none, [2]⟩,
    ⟨(some 13), (.mv (.s 17)), none, [3]⟩,
    ⟨(some 18), (.ext (.s 13) 0), none, [4]⟩,
    ⟨(some 19), (.ext (.s 13) 1), none, [4]⟩,
    ⟨(some 5), (.mv (.s 18)), none, [5, 3, 0, 1, 2, 3, 4, 5]⟩,
    ⟨(some 6), (.mv (.s 19)), none, [6, 7, 0, 1, 2, 3, 4, 5, 6, 7]⟩] false)
  (.seq (.region [
    ⟨(some 20), (.fad 1 (.s 1)), none, []⟩,
    ⟨(some 21), (.ldc (.s 20)), none, [0]⟩,
    ⟨(some 22), (.iad 1 (.s 21) (.c (.int .i64 3))), none, [1]⟩,
    ⟨(some 23), (.ldc (.s 22)), none, [2]⟩,
    ⟨(some 24), (.mv (.s 5)), none, []⟩,
    ⟨(some 25), (.cvi .u32 (.s 24)), none, [4]⟩,
    ⟨(some 26), (.fad 1 (.s 1)), none, []⟩,
    ⟨(some 27), (.ldc (.s 26)), none, [6]⟩,
    ⟨(some 28), (.sls 1 (.s 27) (some (.c (.int .i64 8))) none none), none, [7]⟩,
    ⟨(some 29), (.call (.c (.fn 108 [])) [(.s 28)]), none, [8]⟩,
    ⟨(some 30), (.build (.vals [(.int .u8 0), (.int .u32 0), .nils]) [(0, 1, (.s 23)), (1, 1, (.s 25)), (2, 1, (.s 29))]), none, [3, 5, 9]⟩,
    ⟨none, (.stc 3 (.s 2) (.s 30)), none, [10, 9, 0, 1, 2, 3, 4, 5, 6, 7, 8, 9, 10]⟩,
    ⟨(some 3), (.mv (.c (.int .i64 0))), none, [11, 0, 1, 2, 3, 4, 5, 6, 7, 8, 9, 10, 11]⟩] true)
  .ret)))), false, (some [(Sh.st (Sh.pr (Sh.int .u8) (Sh.sl (Sh.int .u8))))]), (some (Sh.tu (Sh.pr (Sh.st (Sh.pr (Sh.int .u8) (Sh.pr (Sh.int .u32) (Sh.sl (Sh.int .u8))))) (Sh.int .i64))))⟩

/-- euphroe/attr.ToBinding -/
def k154 : Fun := ⟨1, 31, [0, 1, 2, 3, 4, 5, 9], [(.cell 2 97 true (some .u8)), (.tmp 3)],
  (.seq (.region [
    ⟨(some 1), (.box (.s 0)), none, []⟩,
    ⟨(some 2), (.new (.ints .u8 [0, 0, 0, 0, 0, 0, 0, 0, 0, 0, 0, 0, 0, 0, 0, 0, 0, 0, 0, 0, 0, 0, 0, 0, 0, 0, 0, 0, 0, 0, 0, 0, 0, 0, 0, 0, 0, 0, 0, 0, 0, 0, 0, 0, 0, 0, 0, 0, 0, 0, 0, 0, 0, 0, 0, 0, 0, 0, 0, 0, 0, 0, 0, 0, 0, 0, 0, 0, 0, 0, 0, 0, 0, 0, 0, 0, 0, 0, 0, 0, 0, 0, 0, 0, 0, 0, 0, 0, 0, 0, 0, 0, 0, 0, 0, 0, 0])), none, []⟩,
    ⟨(some 3), (.mv (.c (.int .i64 0))), none, []⟩] false)
  (.seq (.seq (.region [
    ⟨(some 6), (.lda 2 none (.s 1)), none, []⟩,
    ⟨(some 7), (.call (.c (.fn 167 [])) [(.s 6), (.c (.int .u8 3))]), none, [0]⟩,
    ⟨(some 4), (.mv (.s 7)), none, [1, 1, 0, 1]⟩] false)
  (.seq (.region [
    ⟨(some 8), (.mv (.s 4)), none, []⟩,
    ⟨(some 9), (.bin .neq (.s 8) (.c (.int .i64 0))), none, [0]⟩] false)
  (.cond (.s 9)
   (.seq (.region [
     ⟨(some 10), (.build (.ints .u8 [0, 0, 0, 0, 0, 0, 0, 0, 0, 0, 0, 0, 0, 0, 0, 0, 0, 0, 0, 0, 0, 0, 0, 0, 0, 0, 0, 0, 0, 0, 0, 0, 0, 0, 0, 0, 0, 0, 0, 0, 0, 0, 0, 0, 0, 0, 0, 0, 0, 0, 0, 0, 0, 0, 0, 0, 0, 0, 0, 0, 0, 0, 0, 0, 0, 0, 0, 0, 0, 0, 0, 0, 0, 0, 0, 0, 0, 0, 0, 0, 0, 0, 0, 0, 0, 0, 0, 0, 0, 0, 0, 0, 0, 0, 0, 0, 0]) []), none, []⟩,
     ⟨(some 11), (.mv (.s 4)), none, []⟩,
     ⟨none, (.stc 97 (.s 2) (.s 10)), none, [0, 0]⟩,
     ⟨(some 3), (.mv (.s 11)), none, [1, 2, 0, 1, 2]⟩] false)
   .ret)
   .skip)))
  (.seq (.region [
    ⟨(some 12), (.fad 1 (.s 1)), none, []⟩,
    ⟨(some 13), (.ldc (.s 12)), none, [0]⟩,
    ⟨(some 14), (.sls 1 (.s 13) (some (.c (.int .i64 4))) none none), none, [1]⟩,
    ⟨(some 5), (.mv (.s 14)), none, [2, 0, 1, 2]⟩] false)
  (.seq (.region [
    ⟨(some 15), (.fad 1 (.s 1)), none, []⟩,
    ⟨(some 16), (.ldc (.s 15)), none, [0]⟩,
    ⟨(some 17), (.iad 1 (.s 16) (.c (.int .i64 3))), none, [1]⟩,
    ⟨(some 18), (.ldc (.s 17)), none, [2]⟩,
    ⟨(some 19), (.mv (.s 5)), none, []⟩,
    ⟨(some 20), (.s2a 32 (.s 19)), none, [4]⟩,
    ⟨(some 21), (.lda 32 (some .u8) (.s 20)), none, [5]⟩,
    ⟨(some 22), (.mv (.s 5)), none, []⟩,
    ⟨(some 23), (.sls 1 (.s 22) (some (.c (.int .i64 32))) none none), none, [7]⟩,
    ⟨(some 24), (.s2a 32 (.s 23)), none, [8]⟩,
    ⟨(some 25), (.lda 32 (some .u8) (.s 24)), none, [9]⟩,
    ⟨(some 26), (.mv (.s 5)), none, []⟩,
    ⟨(some 27), (.sls 1 (.s 26) (some (.c (.int .i64 64))) none none), none, [11]⟩,
    ⟨(some 28), (.s2a 32 (.s 27)), none, [12]⟩,
    ⟨(some 29), (.lda 32 (some .u8) (.s 28)), none, [13]⟩,
    ⟨(some 30), (.build (.ints .u8 [0, 0, 0, 0, 0, 0, 0, 0, 0, 0, 0, 0, 0, 0, 0, 0, 0, 0, 0, 0, 0, 0, 0, 0, 0, 0, 0, 0, 0, 0, 0, 0, 0, 0, 0, 0, 0, 0, 0, 0, 0, 0, 0, 0, 0, 0, 0, 0, 0, 0, 0, 0, 0, 0, 0, 0, 0, 0, 0, 0, 0, 0, 0, 0, 0, 0, 0, 0, 0, 0, 0, 0, 0, 0, 0, 0, 0, 0, 0, 0, 0, 0, 0, 0, 0, 0, 0, 0, 0, 0, 0, 0, 0, 0, 0, 0, 0]) [(0, 1, (.s 18)), (1, 32, (.s 21)), (33, 32, (.s 25)), (65, 32, (.s 29))]), none, [3, 6, 10, 14]⟩,
    ⟨none, (.stc 97 (.s 2) (.s 30)), none, [15, 0, 1, 2, 3, 4, 5, 6, 7, 8, 9, 10, 11, 12, 13, 14, 15]⟩,
    ⟨(some 3), (.mv (.c (.int .i64 0))), none, [16, 0, 1, 2, 3, 4, 5, 6, 7, 8, 9, 10, 11, 12, 13, 14, 15, 16]⟩] true)
  .ret)))), false, (some [(Sh.st (Sh.pr (Sh.int .u8) (Sh.sl (Sh.int .u8))))]), (some (Sh.tu (Sh.pr (Sh.ar .u8) (Sh.int .i64))))⟩

/-- euphroe/attr.ToAsk -/
def k155 : Fun := ⟨1, 21, [0, 1, 2, 3, 4, 8], [(.cell 2 33 true (some .u8)), (.tmp 3)],
  (.seq (.region [
    ⟨(some 1), (.box (.s 0)), none, []⟩,
    ⟨(some 2), (.new (.ints .u8 [0, 0, 0, 0, 0, 0, 0, 0, 0, 0, 0, 0, 0, 0, 0, 0, 0, 0, 0, 0, 0, 0, 0, 0, 0, 0, 0, 0, 0, 0, 0, 0, 0])), none, []⟩,
    ⟨(some 3), (.mv (.c (.int .i64 0))), none, []⟩] false)
  (.seq (.seq (.region [
    ⟨(some 5), (.lda 2 none (.s 1)), none, []⟩,
    ⟨(some 6), (.call (.c (.fn 167 [])) [(.s 5), (.c (.int .u8 4))]), none, [0]⟩,
    ⟨(some 4), (.mv (.s 6)), none, [1, 1, 0, 1]⟩] false)
  (.seq (.region [
    ⟨(some 7), (.mv (.s 4)), none, []⟩,
    ⟨(some 8), (.bin .neq (.s 7) (.c (.int .i64 0))), none, [0]⟩] false)
  (.cond (.s 8)
   (.seq (.region [
     ⟨(some 9), (.build (.ints .u8 [0, 0, 0, 0, 0, 0, 0, 0, 0, 0, 0, 0, 0, 0, 0, 0, 0, 0, 0, 0, 0, 0, 0, 0, 0, 0, 0, 0, 0, 0, 0, 0, 0]) []), none, []⟩,
     ⟨(some 10), (.mv (.s 4)), none, []⟩,
     ⟨none, (.stc 33 (.s 2) (.s 9)), none, [0, 0]⟩,
     ⟨(some 3), (.mv (.s 10)), none, [1, 2, 0, 1, 2]⟩] false)
   .ret)
   .skip)))
  (.seq (.region [
    ⟨(some 11), (.fad 1 (.s 1)), none, []⟩,
    ⟨(some 12), (.ldc (.s 11)), none, [0]⟩,
    ⟨(some 13), (.iad 1 (.s 12) (.c (.int .i64 3))), none, [1]⟩,
    ⟨(some 14), (.ldc (.s 13)), none, [2]⟩,
    ⟨(some 15), (.fad 1 (.s 1)), none, []⟩,
    ⟨(some 16), (.ldc (.s 15)), none, [4]⟩,
    ⟨(some 17), (.sls 1 (.s 16) (some (.c (.int .i64 4))) none none), none, [5]⟩,
    ⟨(some 18), (.s2a 32 (.s 17)), none, [6]⟩,
    ⟨(some 19), (.lda 32 (some .u8) (.s 18)), none, [7]⟩,
    ⟨(some 20), (.build (.ints .u8 [0, 0, 0, 0, 0, 0, 0, 0, 0, 0, 0, 0, 0, 0, 0, 0, 0, 0, 0, 0, 0, 0, 0, 0, 0, 0, 0, 0, 0, 0, 0, 0, 0]) [(0, 1, (.s 14)), (1, 32, (.s 19))]), none, [3, 8]⟩,
    ⟨none, (.stc 33 (.s 2) (.s 20)), none, [9, 0, 1, 2, 3, 4, 5, 6, 7, 8, 9]⟩,
    ⟨(some 3), (.mv (.c (.int .i64 0))), none, [10, 0, 1, 2, 3, 4, 5, 6, 7, 8, 9, 10]⟩] true)
  .ret))), false, (some [(Sh.st (Sh.pr (Sh.int .u8) (Sh.sl (Sh.int .u8))))]), (some (Sh.tu (Sh.pr (Sh.ar .u8) (Sh.int .i64))))⟩

/-- euphroe/attr.ToProto -/
def k156 : Fun := ⟨1, 20, [0, 1, 2, 3, 4, 5, 10], [(.tmp 2), (.tmp 3)],
  (.seq (.region [
    ⟨(some 1), (.box (.s 0)), none, []⟩,
    ⟨(some 2), (.mv (.c (.int .u16 0))), none, []⟩,
    ⟨(some 3), (.mv (.c (.int .i64 0))), none, [1]⟩] false)
  (.seq (.seq (.region [
    ⟨(some 7), (.lda 2 none (.s 1)), none, []⟩,
    ⟨(some 8), (.call (.c (.fn 167 [])) [(.s 7), (.c (.int .u8 1))]), none, [0]⟩,
    ⟨(some 4), (.mv (.s 8)), none, [1, 1, 0, 1]⟩] false)
  (.seq (.region [
    ⟨(some 9), (.mv (.s 4)), none, []⟩,
    ⟨(some 10), (.bin .neq (.s 9) (.c (.int .i64 0))), none, [0]⟩] false)
  (.cond (.s 10)
   (.seq (.region [
     ⟨(some 11), (.mv (.s 4)), none, []⟩,
     ⟨(some 2), (.mv (.c (.int .u16 0))), none, []⟩,
     ⟨(some 3), (.mv (.s 11)), none, [0, 1, 0, 1]⟩] false)
   .ret)
   .skip)))
  (.seq (.region [
    ⟨(some 13), (.fad 1 (.s 1)), none, []⟩,
    ⟨(some 14), (.ldc (.s 13)), none, [0]⟩,
    ⟨(some 15), (.call (.c (.fn 21 [])) [(.s 14), (.c (.bool false))]), none, [1]⟩,
    ⟨(some 12), (.mv (.s 15)), none, [2]⟩,
    ⟨(some 16), (.ext (.s 12) 0), none, [3]⟩,
    ⟨(some 17), (.ext (.s 12) 1), none, [3]⟩,
    ⟨(some 5), (.mv (.s 16)), none, [4, 2, 0, 1, 2, 3, 4]⟩,
    ⟨(some 6), (.mv (.s 17)), none, [5, 6, 0, 1, 2, 3, 4, 5, 6]⟩] false)
  (.seq (.region [
    ⟨(some 18), (.mv (.s 5)), none, []⟩,
    ⟨(some 19), (.cvi .u16 (.s 18)), none, [0]⟩,
    ⟨(some 2), (.mv (.s 19)), none, [1, 0, 1]⟩,
    ⟨(some 3), (.mv (.c (.int .i64 0))), none, [2, 0, 1, 2]⟩] false)
  .ret)))), false, (some [(Sh.st (Sh.pr (Sh.int .u8) (Sh.sl (Sh.int .u8))))]), (some (Sh.tu (Sh.pr (Sh.int .u16) (Sh.int .i64))))⟩

/-- euphroe/attr.Proto -/
def k157 : Fun := ⟨1, 13, [0, 2, 3], [(.cell 2 2 true none)],
  (.seq (.region [
    ⟨(some 2), (.new (.vals [(.int .u8 0), .nils])), none, []⟩] false)
  (.seq (.region [
    ⟨(some 6), (.mv (.s 0)), none, []⟩,
    ⟨(some 7), (.cvi .u64 (.s 6)), none, [0]⟩,
    ⟨(some 8), (.call (.c (.fn 19 [])) [(.s 7), (.c (.int .i64 2)), (.c (.bool false))]), none, [1]⟩,
    ⟨(some 5), (.mv (.s 8)), none, [2]⟩,
    ⟨(some 9), (.ext (.s 5) 0), none, [3]⟩,
    ⟨(some 10), (.ext (.s 5) 1), none, [3]⟩,
    ⟨(some 3), (.mv (.s 9)), none, [4, 2, 0, 1, 2, 3, 4]⟩,
    ⟨(some 4), (.mv (.s 10)), none, [5, 6, 0, 1, 2, 3, 4, 5, 6]⟩] false)
  (.seq (.region [
    ⟨(some 11), (.mv (.s 3)), none, []⟩,
    ⟨(some 12), (.build (.vals [(.int .u8 0), .nils]) [(0, 1, (.c (.int .u8 1))), (1, 1, (.s 11))]), none, [0]⟩,
    ⟨none, (.stc 2 (.s 2) (.s 12)), none, [1, 0, 1]⟩] false)
  .ret))), false, (some [(Sh.int .u16)]), (some (Sh.st (Sh.pr (Sh.int .u8) (Sh.sl (Sh.int .u8)))))⟩

/-- euphroe/euphroeref17.To -/
def k158 : Fun := ⟨2, 11, [0, 1, 2, 4, 8], [(.tmp 4)],
  (.seq (.region [
    ⟨(some 2), (.box (.s 0)), none, []⟩,
    ⟨(some 4), (.mv (.c (.int .i64 0))), none, []⟩] false)
  (.seq (.seq (.region [
    ⟨(some 5), (.fad 0 (.s 2)), none, []⟩,
    ⟨(some 6), (.ldc (.s 5)), none, [0]⟩,
    ⟨(some 7), (.mv (.s 1)), none, []⟩,
    ⟨(some 8), (.bin .neq (.s 6) (.s 7)), none, [1, 2]⟩] false)
  (.cond (.s 8)
   (.seq (.region [
     ⟨(some 4), (.mv (.c (.int .i64 9))), none, []⟩] false)
   .ret)
   .skip))
  (.seq (.region [
    ⟨(some 9), (.lda 2 none (.s 2)), none, []⟩,
    ⟨(some 10), (.call (.c (.fn 146 [])) [(.s 9)]), none, [0]⟩,
    ⟨(some 4), (.mv (.s 10)), none, [1, 1, 0, 1]⟩] false)
  .ret))), false, (some [(Sh.st (Sh.pr (Sh.int .u8) (Sh.sl (Sh.int .u8)))), (Sh.int .u8)]), (some (Sh.int .i64))⟩

/-- bytes.TrimPrefix -/
def k159 : Fun := ⟨2, 13, [0, 1, 4, 7], [(.tmp 4)],
  (.seq (.region [
    ⟨(some 4), (.mv (.c .nils)), none, []⟩] false)
  (.seq (.seq (.region [
    ⟨(some 5), (.mv (.s 0)), none, []⟩,
    ⟨(some 6), (.mv (.s 1)), none, []⟩,
    ⟨(some 7), (.call (.c (.fn 164 [])) [(.s 5), (.s 6)]), none, [0, 1]⟩] false)
  (.cond (.s 7)
   (.seq (.region [
     ⟨(some 8), (.mv (.s 0)), none, []⟩,
     ⟨(some 9), (.mv (.s 1)), none, []⟩,
     ⟨(some 10), (.len false (.s 9)), none, [1]⟩,
     ⟨(some 11), (.sls 1 (.s 8) (some (.s 10)) none none), none, [0, 2]⟩,
     ⟨(some 4), (.mv (.s 11)), none, [3, 0, 1, 2, 3]⟩] false)
   .ret)
   .skip))
  (.seq (.region [
    ⟨(some 12), (.mv (.s 0)), none, []⟩,
    ⟨(some 4), (.mv (.s 12)), none, [0, 0]⟩] false)
  .ret))), false, (some [(Sh.sl (Sh.int .u8)), (Sh.sl (Sh.int .u8))]), (some (Sh.sl (Sh.int .u8)))⟩

/-- bytes.Equal -/
def k160 : Fun := ⟨2, 10, [0, 1, 4], [(.tmp 4)],
  (.seq (.region [
    ⟨(some 4), (.mv (.c (.bool false))), none, []⟩] false)
  (.seq (.region [
    ⟨(some 5), (.mv (.s 0)), none, []⟩,
    ⟨(some 6), (.b2s (.s 5)), none, [0]⟩,
    ⟨(some 7), (.mv (.s 1)), none, []⟩,
    ⟨(some 8), (.b2s (.s 7)), none, [2]⟩,
    ⟨(some 9), (.bin .eql (.s 6) (.s 8)), none, [1, 3]⟩,
    ⟨(some 4), (.mv (.s 9)), none, [4, 0, 1, 2, 3, 4]⟩] false)
  .ret)), false, (some [(Sh.sl (Sh.int .u8)), (Sh.sl (Sh.int .u8))]), (some Sh.bool)⟩

/-- euphroe/attr.isKind -/
def k161 : Fun := ⟨1, 9, [0, 2], [(.tmp 2)],
  (.seq (.region [
    ⟨(some 2), (.mv (.c (.bool false))), none, []⟩] false)
  (.seq (.region [
    ⟨(some 3), (.mv (.s 0)), none, []⟩,
    ⟨(some 4), (.bin .geq (.s 3) (.c (.int .u8 1))), none, [0]⟩,
    ⟨(some 5), (.mv (.s 4)), none, [1]⟩,
    ⟨(some 6), (.mv (.s 0)), (some (5, true)), [2]⟩,
    ⟨(some 7), (.bin .leq (.s 6) (.c (.int .u8 4))), (some (5, true)), [3, 2]⟩,
    ⟨(some 8), (.pick (.s 5) (.s 7) (.c (.bool false))), none, [2, 4]⟩,
    ⟨(some 2), (.mv (.s 8)), none, [5, 2, 0, 1, 2, 3, 4, 5]⟩] false)
  .ret)), false, (some [(Sh.int .u8)]), (some Sh.bool)⟩

/-- euphroe/euphroeref17.kind -/
def k162 : Fun := ⟨1, 9, [0, 2], [(.tmp 2)],
  (.seq (.region [
    ⟨(some 2), (.mv (.c (.bool false))), none, []⟩] false)
  (.seq (.region [
    ⟨(some 3), (.mv (.s 0)), none, []⟩,
    ⟨(some 4), (.bin .geq (.s 3) (.c (.int .u8 1))), none, [0]⟩,
    ⟨(some 5), (.mv (.s 4)), none, [1]⟩,
    ⟨(some 6), (.mv (.s 0)), (some (5, true)), [2]⟩,
    ⟨(some 7), (.bin .leq (.s 6) (.c (.int .u8 4))), (some (5, true)), [3, 2]⟩,
    ⟨(some 8), (.pick (.s 5) (.s 7) (.c (.bool false))), none, [2, 4]⟩,
    ⟨(some 2), (.mv (.s 8)), none, [5, 2, 0, 1, 2, 3, 4, 5]⟩] false)
  .ret)), false, (some [(Sh.int .u8)]), (some Sh.bool)⟩

/-- euphroe/attr.limits -/
def k163 : Fun := ⟨1, 13, [0, 2, 3, 4, 5, 6, 7, 9, 11], [(.tmp 2), (.tmp 3), (.tmp 4), (.tmp 5)],
  (.seq (.region [
    ⟨(some 2), (.mv (.c (.int .i64 0))), none, []⟩,
    ⟨(some 3), (.mv (.c (.int .i64 0))), none, [0]⟩,
    ⟨(some 4), (.mv (.c (.int .u8 0))), none, [1]⟩,
    ⟨(some 5), (.mv (.c (.int .u8 0))), none, [2]⟩] false)
  (.seq (.region [
    ⟨(some 6), (.mv (.s 0)), none, []⟩] false)
  (.block 0
   (.seq (.region [
     ⟨(some 8), (.bin .eql (.s 6) (.c (.int .u8 2))), none, []⟩,
     ⟨(some 7), (.mv (.s 8)), none, [0]⟩] false)
   (.cond (.s 7)
    (.seq (.region [
      ⟨(some 2), (.mv (.c (.int .i64 8))), none, []⟩,
      ⟨(some 3), (.mv (.c (.int .i64 72))), none, [0, 0]⟩,
      ⟨(some 4), (.mv (.c (.int .u8 0))), none, [1, 0, 1]⟩,
      ⟨(some 5), (.mv (.c (.int .u8 4))), none, [2, 0, 1, 2]⟩] false)
    .ret)
    (.seq (.region [
      ⟨(some 10), (.bin .eql (.s 6) (.c (.int .u8 3))), none, []⟩,
      ⟨(some 9), (.mv (.s 10)), none, [0]⟩] false)
    (.cond (.s 9)
     (.seq (.region [
       ⟨(some 2), (.mv (.c (.int .i64 100))), none, []⟩,
       ⟨(some 3), (.mv (.c (.int .i64 100))), none, [0, 0]⟩,
       ⟨(some 4), (.mv (.c (.int .u8 1))), none, [1, 0, 1]⟩,
       ⟨(some 5), (.mv (.c (.int .u8 2))), none, [2, 0, 1, 2]⟩] false)
     .ret)
     (.seq (.region [
       ⟨(some 12), (.bin .eql (.s 6) (.c (.int .u8 4))), none, []⟩,
       ⟨(some 11), (.mv (.s 12)), none, [0]⟩] false)
     (.cond (.s 11)
      (.seq (.region [
        ⟨(some 2), (.mv (.c (.int .i64 36))), none, []⟩,
        ⟨(some 3), (.mv (.c (.int .i64 36))), none, [0, 0]⟩,
        ⟨(some 4), (.mv (.c (.int .u8 1))), none, [1, 0, 1]⟩,
        ⟨(some 5), (.mv (.c (.int .u8 3))), none, [2, 0, 1, 2]⟩] false)
      .ret)
      (.seq (.region [
        ⟨(some 2), (.mv (.c (.int .i64 2))), none, []⟩,
        ⟨(some 3), (.mv (.c (.int .i64 2))), none, [0, 0]⟩,
        ⟨(some 4), (.mv (.c (.int .u8 0))), none, [1, 0, 1]⟩,
        ⟨(some 5), (.mv (.c (.int .u8 0))), none, [2, 0, 1, 2]⟩] false)
      .ret)))))))))), false, (some [(Sh.int .u8)]), (some (Sh.tu (Sh.pr (Sh.int .i64) (Sh.pr (Sh.int .i64) (Sh.pr (Sh.int .u8) (Sh.int .u8))))))⟩

/-- bytes.HasPrefix -/
def k164 : Fun := ⟨2, 18, [0, 1, 4], [(.tmp 4)],
  (.seq (.region [
    ⟨(some 4), (.mv (.c (.bool false))), none, []⟩] false)
  (.seq (.region [
    ⟨(some 5), (.mv (.s 0)), none, []⟩,
    ⟨(some 6), (.len false (.s 5)), none, [0]⟩,
    ⟨(some 7), (.mv (.s 1)), none, []⟩,
    ⟨(some 8), (.len false (.s 7)), none, [2]⟩,
    ⟨(some 9), (.bin .geq (.s 6) (.s 8)), none, [1, 3]⟩,
    ⟨(some 10), (.mv (.s 9)), none, [4]⟩,
    ⟨(some 11), (.mv (.s 0)), (some (10, true)), [5]⟩,
    ⟨(some 12), (.mv (.s 1)), (some (10, true)), [5]⟩,
    ⟨(some 13), (.len false (.s 12)), (some (10, true)), [7, 5]⟩,
    ⟨(some 14), (.sls 1 (.s 11) none (some (.s 13)) none), (some (10, true)), [6, 8, 5]⟩,
    ⟨(some 15), (.mv (.s 1)), (some (10, true)), [5]⟩,
    ⟨(some 16), (.call (.c (.fn 160 [])) [(.s 14), (.s 15)]), (some (10, true)), [9, 10, 5, 5]⟩,
    ⟨(some 17), (.pick (.s 10) (.s 16) (.c (.bool false))), none, [5, 11]⟩,
    ⟨(some 4), (.mv (.s 17)), none, [12, 11, 0, 1, 2, 3, 4, 5, 6, 7, 8, 9, 10, 11, 12]⟩] false)
  .ret)), false, (some [(Sh.sl (Sh.int .u8)), (Sh.sl (Sh.int .u8))]), (some Sh.bool)⟩

/-- euphroe/euphroeref17.zeros -/
def k165 : Fun := ⟨1, 15, [0, 2, 3, 7, 14], [(.tmp 2)],
  (.seq (.region [
    ⟨(some 2), (.mv (.c (.bool false))), none, []⟩] false)
  (.seq (.seq (.region [
    ⟨(some 3), (.mv (.c (.int .i64 0))), none, []⟩] false)
  (.block 0
   (.loop ⟨0, [], false, [0, 3], []⟩
    (.seq (.seq (.region [
      ⟨(some 4), (.mv (.s 3)), none, []⟩,
      ⟨(some 5), (.mv (.s 0)), none, []⟩,
      ⟨(some 6), (.len false (.s 5)), none, [1]⟩,
      ⟨(some 7), (.bin .lss (.s 4) (.s 6)), none, [0, 2]⟩] false)
    (.cond (.s 7)
     .skip
     (.pre ⟨0, [], false, [], []⟩ (.exit 0))))
    (.seq (.block 1
     (.seq (.region [
       ⟨(some 10), (.mv (.s 0)), none, []⟩,
       ⟨(some 11), (.mv (.s 3)), none, []⟩,
       ⟨(some 12), (.iad 1 (.s 10) (.s 11)), none, [0, 1]⟩,
       ⟨(some 13), (.ldc (.s 12)), none, [2]⟩,
       ⟨(some 14), (.bin .neq (.s 13) (.c (.int .u8 0))), none, [3]⟩] false)
     (.cond (.s 14)
      (.seq (.region [
        ⟨(some 2), (.mv (.c (.bool false))), none, []⟩] false)
      .ret)
      .skip)))
    (.region [
      ⟨(some 8), (.mv (.s 3)), none, []⟩,
      ⟨(some 9), (.bin .add (.s 8) (.c (.int .i64 1))), none, [0]⟩,
      ⟨(some 3), (.mv (.s 9)), none, [1, 0, 1]⟩] false))))))
  (.seq (.region [
    ⟨(some 2), (.mv (.c (.bool true))), none, []⟩] false)
  .ret))), false, (some [(Sh.sl (Sh.int .u8))]), (some Sh.bool)⟩

/-- euphroe/attr.ahead -/
def k166 : Fun := ⟨1, 5, [0, 2], [(.tmp 2)],
  (.seq (.region [
    ⟨(some 2), (.mv (.c .nils)), none, []⟩] false)
  (.seq (.region [
    ⟨(some 3), (.mv (.s 0)), none, []⟩,
    ⟨(some 4), (.bsl 4 1 (.ints .u8 [0, 0, 0, 0]) [(0, 1, (.c (.int .u8 0))), (1, 1, (.c (.int .u8 0))), (2, 1, (.c (.int .u8 0))), (3, 1, (.s 3))]), none, [0]⟩,
    ⟨(some 2), (.mv (.s 4)), none, [1, 0, 1]⟩] false)
  .ret)), false, (some [(Sh.int .u8)]), (some (Sh.sl (Sh.int .u8)))⟩

/-- euphroe/attr.is -/
def k167 : Fun := ⟨2, 11, [0, 1, 2, 4, 8], [(.tmp 4)],
  (.seq (.region [
    ⟨(some 2), (.box (.s 0)), none, []⟩,
    ⟨(some 4), (.mv (.c (.int .i64 0))), none, []⟩] false)
  (.seq (.seq (.region [
    ⟨(some 5), (.fad 0 (.s 2)), none, []⟩,
    ⟨(some 6), (.ldc (.s 5)), none, [0]⟩,
    ⟨(some 7), (.mv (.s 1)), none, []⟩,
    ⟨(some 8), (.bin .neq (.s 6) (.s 7)), none, [1, 2]⟩] false)
  (.cond (.s 8)
   (.seq (.region [
     ⟨(some 4), (.mv (.c (.int .i64 9))), none, []⟩] false)
   .ret)
   .skip))
  (.seq (.region [
    ⟨(some 9), (.lda 2 none (.s 2)), none, []⟩,
    ⟨(some 10), (.call (.c (.fn 145 [])) [(.s 9)]), none, [0]⟩,
    ⟨(some 4), (.mv (.s 10)), none, [1, 1, 0, 1]⟩] false)
  .ret))), false, (some [(Sh.st (Sh.pr (Sh.int .u8) (Sh.sl (Sh.int .u8)))), (Sh.int .u8)]), (some (Sh.int .i64))⟩

def FT : Nat → Option Fun
  | 1 => some k1
  | 15 => some k15
  | 16 => some k16
  | 17 => some k17
  | 18 => some k18
  | 19 => some k19
  | 21 => some k21
  | 23 => some k23
  | 40 => some k40
  | 41 => some k41
  | 42 => some k42
  | 43 => some k43
  | 44 => some k44
  | 45 => some k45
  | 46 => some k46
  | 47 => some k47
  | 48 => some k48
  | 50 => some k50
  | 51 => some k51
  | 59 => some k59
  | 60 => some k60
  | 63 => some k63
  | 64 => some k64
  | 65 => some k65
  | 121 => some k121
  | 122 => some k122
  | 123 => some k123
  | 124 => some k124
  | 126 => some k126
  | 127 => some k127
  | 128 => some k128
  | 129 => some k129
  | 130 => some k130
  | 131 => some k131
  | 132 => some k132
  | 133 => some k133
  | 134 => some k134
  | 135 => some k135
  | 136 => some k136
  | 137 => some k137
  | 138 => some k138
  | 139 => some k139
  | 140 => some k140
  | 141 => some k141
  | 142 => some k142
  | 143 => some k143
  | 144 => some k144
  | 145 => some k145
  | 146 => some k146
  | 147 => some k147
  | 148 => some k148
  | 149 => some k149
  | 150 => some k150
  | 151 => some k151
  | 152 => some k152
  | 153 => some k153
  | 154 => some k154
  | 155 => some k155
  | 156 => some k156
  | 157 => some k157
  | 158 => some k158
  | 159 => some k159
  | 160 => some k160
  | 161 => some k161
  | 162 => some k162
  | 163 => some k163
  | 164 => some k164
  | 165 => some k165
  | 166 => some k166
  | 167 => some k167
  | _ => none
end Go.Proofs.YtjkdflcccoeggaaE
