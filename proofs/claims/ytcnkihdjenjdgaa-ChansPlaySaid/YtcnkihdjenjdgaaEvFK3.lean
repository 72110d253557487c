/- The evaluator's functions. -/
import Derived.Test.YtcnkihdjenjdgaaEvXT
namespace Go.Proofs.YtcnkihdjenjdgaaE
open Go
set_option linter.unusedVariables false
set_option linter.unusedSimpArgs false

/-- euphroe/euphroeref01.Same -/
def k23 : Fun := ⟨2, 26, [0, 1, 4, 5, 10, 14, 25], [(.tmp 4)],
  (.seq (.region [
    ⟨(some 4), (.mv (.c (.bool false))), none, []⟩] false)
  (.seq (.seq (.region [
    ⟨(some 6), (.mv (.s 0)), none, []⟩,
    ⟨(some 7), (.len false (.s 6)), none, [0]⟩,
    ⟨(some 8), (.mv (.s 1)), none, []⟩,
    ⟨(some 9), (.len false (.s 8)), none, [2]⟩,
    ⟨(some 10), (.bin .neq (.s 7) (.s 9)), none, [1, 3]⟩] false)
  (.cond (.s 10)
   (.seq (.region [
     ⟨(some 4), (.mv (.c (.bool false))), none, []⟩] false)
   .ret)
   .skip))
  (.seq (.seq (.region [
    ⟨(some 5), (.mv (.c (.int .i64 0))), none, []⟩] false)
  (.block 0
   (.loop ⟨0, [], false, [0, 1, 5], []⟩
    (.seq (.seq (.region [
      ⟨(some 11), (.mv (.s 5)), none, []⟩,
      ⟨(some 12), (.mv (.s 0)), none, []⟩,
      ⟨(some 13), (.len false (.s 12)), none, [1]⟩,
      ⟨(some 14), (.bin .lss (.s 11) (.s 13)), none, [0, 2]⟩] false)
    (.cond (.s 14)
     .skip
     (.pre ⟨0, [], false, [], []⟩ (.exit 0))))
    (.seq (.block 1
     (.seq (.region [
       ⟨(some 17), (.mv (.s 0)), none, []⟩,
       ⟨(some 18), (.mv (.s 5)), none, []⟩,
       ⟨(some 19), (.iad 1 (.s 17) (.s 18)), none, [0, 1]⟩,
       ⟨(some 20), (.ldc (.s 19)), none, [2]⟩,
       ⟨(some 21), (.mv (.s 1)), none, []⟩,
       ⟨(some 22), (.mv (.s 5)), none, []⟩,
       ⟨(some 23), (.iad 1 (.s 21) (.s 22)), none, [4, 5]⟩,
       ⟨(some 24), (.ldc (.s 23)), none, [6]⟩,
       ⟨(some 25), (.bin .neq (.s 20) (.s 24)), none, [3, 7]⟩] true)
     (.cond (.s 25)
      (.seq (.region [
        ⟨(some 4), (.mv (.c (.bool false))), none, []⟩] false)
      .ret)
      .skip)))
    (.region [
      ⟨(some 15), (.mv (.s 5)), none, []⟩,
      ⟨(some 16), (.bin .add (.s 15) (.c (.int .i64 1))), none, [0]⟩,
      ⟨(some 5), (.mv (.s 16)), none, [1, 0, 1]⟩] false))))))
  (.seq (.region [
    ⟨(some 4), (.mv (.c (.bool true))), none, []⟩] false)
  .ret)))), false, (some [(Sh.sl (Sh.int .u8)), (Sh.sl (Sh.int .u8))]), (some Sh.bool), false⟩

/-- euphroe/euphroelaw38.ChansPlay -/
def k73 : Fun := ⟨1, 287, [0, 2, 3, 4, 6, 7, 8, 9, 10, 11, 12, 13, 14, 15, 16, 17, 18, 19, 20, 21, 22, 23, 24, 25, 26, 27, 28, 29, 30, 31, 32, 45, 46, 47, 48, 54, 57, 59, 63, 73, 99, 135, 136, 171, 172, 211, 214, 215, 216, 217, 218, 222, 223, 282], [(.tmp 2)],
  (.seq (.region [
    ⟨(some 2), (.mv (.c (.bool false))), none, []⟩] false)
  (.seq (.region [
    ⟨(some 33), (.build (.ints .u8 [0, 0, 0, 0, 0, 0, 0, 0, 0, 0, 0, 0, 0, 0, 0, 0, 0, 0, 0, 0, 0, 0, 0, 0, 0, 0, 0, 0, 0, 0, 0, 0]) [(0, 1, (.c (.int .u8 1)))]), none, []⟩,
    ⟨(some 34), (.call (.c (.fn 85 [])) [(.s 33)]), none, [0]⟩,
    ⟨(some 35), (.build (.ints .u8 [0, 0, 0, 0, 0, 0, 0, 0, 0, 0, 0, 0, 0, 0, 0, 0, 0, 0, 0, 0, 0, 0, 0, 0, 0, 0, 0, 0, 0, 0, 0, 0]) [(0, 1, (.c (.int .u8 2)))]), none, []⟩,
    ⟨(some 36), (.call (.c (.fn 85 [])) [(.s 35)]), none, [2, 1]⟩,
    ⟨(some 37), (.bsl 2 1 (.vals [.nilp, .nilp]) [(0, 1, (.s 34)), (1, 1, (.s 36))]), none, [1, 3]⟩,
    ⟨(some 3), (.mv (.s 37)), none, [4, 3, 0, 1, 2, 3, 4]⟩] false)
  (.seq (.region [
    ⟨(some 38), (.build (.vals [.nils, (.int .i64 0), (.int .i64 0), (.int .i64 0), .nils, (.int .i64 0), (.int .i64 0), (.int .i64 0), (.bool false)]) []), none, []⟩,
    ⟨(some 39), (.build (.vals [.nils, (.int .i64 0), (.int .i64 0), (.int .i64 0), .nils, (.int .i64 0), (.int .i64 0), (.int .i64 0), (.bool false)]) []), none, []⟩,
    ⟨(some 40), (.bsl 2 9 (.vals [.nils, (.int .i64 0), (.int .i64 0), (.int .i64 0), .nils, (.int .i64 0), (.int .i64 0), (.int .i64 0), (.bool false), .nils, (.int .i64 0), (.int .i64 0), (.int .i64 0), .nils, (.int .i64 0), (.int .i64 0), (.int .i64 0), (.bool false)]) [(0, 9, (.s 38)), (9, 9, (.s 39))]), none, [0, 1]⟩,
    ⟨(some 4), (.mv (.s 40)), none, [2, 0, 1, 2]⟩] false)
  (.seq (.seq (.region [
    ⟨(some 41), (.mv (.s 0)), none, []⟩,
    ⟨(some 42), (.mv (.s 0)), none, []⟩,
    ⟨(some 43), (.len false (.s 42)), none, [1]⟩,
    ⟨(some 44), (.mnx false [(.s 43), (.c (.int .i64 40))]), none, [2]⟩,
    ⟨(some 45), (.sls 7 (.s 41) none (some (.s 44)) none), none, [0, 3]⟩,
    ⟨(some 46), (.len false (.s 45)), none, [4]⟩,
    ⟨(some 47), (.mv (.c (.int .i64 0))), none, []⟩] false)
  (.block 0
   (.loop ⟨0, [(4, (Sh.st (Sh.pr (Sh.sl (Sh.int .u8)) (Sh.pr (Sh.int .i64) (Sh.pr (Sh.int .i64) (Sh.pr (Sh.int .i64) (Sh.pr (Sh.sl (Sh.int .u8)) (Sh.pr (Sh.int .i64) (Sh.pr (Sh.int .i64) (Sh.pr (Sh.int .i64) Sh.bool))))))))))], false, [3, 4, 45, 46, 47], [(4, (.imm []), 9)]⟩
    (.seq (.region [
      ⟨(some 48), (.bin .lss (.s 47) (.s 46)), none, []⟩] false)
    (.seq (.cond (.s 48)
     .skip
     (.pre ⟨0, [], false, [], []⟩ (.exit 0)))
    (.seq (.block 1
     (.seq (.region [
       ⟨(some 49), (.iad 7 (.s 45) (.s 47)), none, []⟩,
       ⟨(some 50), (.lda 7 none (.s 49)), none, [0]⟩,
       ⟨(some 6), (.new (.vals [(.int .u8 0), (.bool false), (.bool false), (.int .i64 0), (.int .i64 0), (.int .i64 0), .nils])), none, []⟩,
       ⟨none, (.stc 7 (.s 6) (.s 50)), none, [2, 1, 0, 1, 2]⟩] false)
     (.seq (.seq (.region [
       ⟨(some 51), (.fad 6 (.s 6)), none, []⟩,
       ⟨(some 52), (.ldc (.s 51)), none, [0]⟩,
       ⟨(some 53), (.len false (.s 52)), none, [1]⟩,
       ⟨(some 54), (.bin .gtr (.s 53) (.c (.int .i64 70000))), none, [2]⟩] false)
     (.cond (.s 54)
      (.seq (.region [
        ⟨(some 55), (.call (.c (.fn 84 [])) []), none, []⟩,
        ⟨(some 2), (.mv (.s 55)), none, [0, 0, 0]⟩] false)
      .ret)
      .skip))
     (.seq (.region [
       ⟨(some 7), (.mv (.c (.int .i64 0))), none, []⟩,
       ⟨(some 8), (.mv (.c (.int .i64 1))), none, [0, 0]⟩] false)
     (.seq (.seq (.region [
       ⟨(some 56), (.fad 1 (.s 6)), none, []⟩,
       ⟨(some 57), (.ldc (.s 56)), none, [0]⟩] false)
     (.cond (.s 57)
      (.region [
        ⟨(some 7), (.mv (.c (.int .i64 1))), none, []⟩,
        ⟨(some 8), (.mv (.c (.int .i64 0))), none, [0, 0]⟩] false)
      .skip))
     (.seq (.seq (.region [
       ⟨(some 58), (.fad 2 (.s 6)), none, []⟩,
       ⟨(some 59), (.ldc (.s 58)), none, [0]⟩] false)
     (.cond (.s 59)
      (.region [
        ⟨(some 60), (.mv (.s 7)), none, []⟩,
        ⟨(some 8), (.mv (.s 60)), none, [0, 0]⟩] false)
      .skip))
     (.seq (.region [
       ⟨(some 9), (.mv (.c (.int .i64 0))), none, []⟩,
       ⟨(some 10), (.mv (.c (.int .i64 0))), none, [0, 0]⟩] false)
     (.seq (.seq (.region [
       ⟨(some 61), (.fad 0 (.s 6)), none, []⟩,
       ⟨(some 62), (.ldc (.s 61)), none, [0]⟩,
       ⟨(some 63), (.bin .rem (.s 62) (.c (.int .u8 5))), none, [1]⟩] false)
     (.block 2
      (.seq (.region [
        ⟨(some 74), (.bin .eql (.s 63) (.c (.int .u8 0))), none, []⟩,
        ⟨(some 73), (.mv (.s 74)), none, [0]⟩] false)
      (.cond (.s 73)
       (.seq (.region [
         ⟨(some 75), (.mv (.s 3)), none, []⟩,
         ⟨(some 76), (.mv (.s 7)), none, []⟩,
         ⟨(some 77), (.iad 1 (.s 75) (.s 76)), none, [0, 1]⟩,
         ⟨(some 78), (.ldc (.s 77)), none, [2]⟩,
         ⟨(some 79), (.fad 3 (.s 6)), none, []⟩,
         ⟨(some 80), (.ldc (.s 79)), none, [4]⟩,
         ⟨(some 81), (.fad 6 (.s 6)), none, []⟩,
         ⟨(some 82), (.ldc (.s 81)), none, [6]⟩,
         ⟨(some 83), (.call (.c (.fn 86 [])) [(.s 78), (.s 80), (.s 82)]), none, [3, 5, 7]⟩,
         ⟨(some 9), (.mv (.s 83)), none, [8, 8, 0, 1, 2, 3, 4, 5, 6, 7, 8]⟩] true)
       (.region [
         ⟨(some 85), (.mv (.s 4)), none, []⟩,
         ⟨(some 86), (.mv (.s 7)), none, []⟩,
         ⟨(some 87), (.mv (.s 4)), none, []⟩,
         ⟨(some 88), (.mv (.s 7)), none, []⟩,
         ⟨(some 89), (.iad 9 (.s 87) (.s 88)), none, [2, 3]⟩,
         ⟨(some 90), (.lda 9 none (.s 89)), none, [4]⟩,
         ⟨(some 91), (.fad 3 (.s 6)), none, []⟩,
         ⟨(some 92), (.ldc (.s 91)), none, [6]⟩,
         ⟨(some 93), (.fad 6 (.s 6)), none, []⟩,
         ⟨(some 94), (.ldc (.s 93)), none, [8]⟩,
         ⟨(some 95), (.call (.c (.fn 93 [])) [(.s 90), (.s 92), (.s 94)]), none, [5, 7, 9]⟩,
         ⟨(some 84), (.mv (.s 95)), none, [10]⟩,
         ⟨(some 96), (.ext (.s 84) 0), none, [11]⟩,
         ⟨(some 97), (.ext (.s 84) 1), none, [11]⟩,
         ⟨(some 98), (.iad 9 (.s 85) (.s 86)), none, [0, 1, 0, 1, 2, 3, 4, 5, 6, 7, 8, 9, 10, 11, 12]⟩,
         ⟨none, (.stc 9 (.s 98) (.s 96)), none, [14, 12, 10, 0, 1, 2, 3, 4, 5, 6, 7, 8, 9, 10, 11, 12]⟩,
         ⟨(some 10), (.mv (.s 97)), none, [13, 15, 0, 1, 2, 3, 4, 5, 6, 7, 8, 9, 10, 11, 12, 13, 14, 15]⟩] true))
       (.seq (.region [
         ⟨(some 100), (.bin .eql (.s 63) (.c (.int .u8 1))), none, []⟩,
         ⟨(some 99), (.mv (.s 100)), none, [0]⟩] false)
       (.cond (.s 99)
        (.seq (.region [
          ⟨(some 102), (.mv (.s 3)), none, []⟩,
          ⟨(some 103), (.mv (.s 7)), none, []⟩,
          ⟨(some 104), (.iad 1 (.s 102) (.s 103)), none, [0, 1]⟩,
          ⟨(some 105), (.ldc (.s 104)), none, [2]⟩,
          ⟨(some 106), (.fad 3 (.s 6)), none, []⟩,
          ⟨(some 107), (.ldc (.s 106)), none, [4]⟩,
          ⟨(some 108), (.fad 5 (.s 6)), none, []⟩,
          ⟨(some 109), (.ldc (.s 108)), none, [6]⟩,
          ⟨(some 110), (.call (.c (.fn 88 [])) [(.s 105), (.s 107), (.s 109)]), none, [3, 5, 7]⟩,
          ⟨(some 101), (.mv (.s 110)), none, [8]⟩,
          ⟨(some 111), (.ext (.s 101) 0), none, [9]⟩,
          ⟨(some 112), (.ext (.s 101) 1), none, [9]⟩,
          ⟨(some 11), (.mv (.s 111)), none, [10, 8, 0, 1, 2, 3, 4, 5, 6, 7, 8, 9, 10]⟩,
          ⟨(some 12), (.mv (.s 112)), none, [11, 12, 0, 1, 2, 3, 4, 5, 6, 7, 8, 9, 10, 11, 12]⟩] true)
        (.seq (.region [
          ⟨(some 114), (.mv (.s 4)), none, []⟩,
          ⟨(some 115), (.mv (.s 7)), none, []⟩,
          ⟨(some 116), (.iad 9 (.s 114) (.s 115)), none, [0, 1]⟩,
          ⟨(some 117), (.lda 9 none (.s 116)), none, [2]⟩,
          ⟨(some 118), (.fad 3 (.s 6)), none, []⟩,
          ⟨(some 119), (.ldc (.s 118)), none, [4]⟩,
          ⟨(some 120), (.fad 5 (.s 6)), none, []⟩,
          ⟨(some 121), (.ldc (.s 120)), none, [6]⟩,
          ⟨(some 122), (.call (.c (.fn 94 [])) [(.s 117), (.s 119), (.s 121)]), none, [3, 5, 7]⟩,
          ⟨(some 113), (.mv (.s 122)), none, [8]⟩,
          ⟨(some 123), (.ext (.s 113) 0), none, [9]⟩,
          ⟨(some 124), (.ext (.s 113) 1), none, [9]⟩,
          ⟨(some 125), (.ext (.s 113) 2), none, [9]⟩,
          ⟨(some 13), (.new (.vals [.nils, (.int .i64 0), (.int .i64 0), (.int .i64 0), .nils, (.int .i64 0), (.int .i64 0), (.int .i64 0), (.bool false)])), none, []⟩,
          ⟨none, (.stc 9 (.s 13) (.s 123)), none, [13, 10, 8, 0, 1, 2, 3, 4, 5, 6, 7, 8, 9, 10, 13]⟩,
          ⟨(some 14), (.mv (.s 124)), none, [11, 14, 0, 1, 2, 3, 4, 5, 6, 7, 8, 9, 10, 11, 13, 14]⟩,
          ⟨(some 15), (.mv (.s 125)), none, [12, 15, 0, 1, 2, 3, 4, 5, 6, 7, 8, 9, 10, 11, 12, 13, 14, 15]⟩] true)
        (.seq (.region [
          ⟨(some 126), (.mv (.s 4)), none, []⟩,
          ⟨(some 127), (.mv (.s 7)), none, []⟩,
          ⟨(some 128), (.lda 9 none (.s 13)), none, []⟩,
          ⟨(some 129), (.iad 9 (.s 126) (.s 127)), none, [0, 1, 0, 1, 2]⟩,
          ⟨none, (.stc 9 (.s 129) (.s 128)), none, [3, 2, 0, 1, 2]⟩] false)
        (.seq (.region [
          ⟨(some 130), (.mv (.s 12)), none, []⟩,
          ⟨(some 131), (.mv (.s 15)), none, []⟩,
          ⟨(some 9), (.mv (.s 130)), none, [0, 0]⟩,
          ⟨(some 10), (.mv (.s 131)), none, [1, 2, 0, 1, 2]⟩] false)
        (.seq (.region [
          ⟨(some 132), (.mv (.s 11)), none, []⟩,
          ⟨(some 133), (.mv (.s 14)), none, []⟩,
          ⟨(some 134), (.call (.c (.fn 23 [])) [(.s 132), (.s 133)]), none, [0, 1]⟩,
          ⟨(some 135), (.un .not (.s 134)), none, [2]⟩] false)
        (.cond (.s 135)
         (.seq (.region [
           ⟨(some 2), (.mv (.c (.bool false))), none, []⟩] false)
         .ret)
         .skip))))))
        (.seq (.region [
          ⟨(some 137), (.bin .eql (.s 63) (.c (.int .u8 2))), none, []⟩,
          ⟨(some 136), (.mv (.s 137)), none, [0]⟩] false)
        (.cond (.s 136)
         (.seq (.region [
           ⟨(some 139), (.mv (.s 3)), none, []⟩,
           ⟨(some 140), (.mv (.s 7)), none, []⟩,
           ⟨(some 141), (.iad 1 (.s 139) (.s 140)), none, [0, 1]⟩,
           ⟨(some 142), (.ldc (.s 141)), none, [2]⟩,
           ⟨(some 143), (.fad 3 (.s 6)), none, []⟩,
           ⟨(some 144), (.ldc (.s 143)), none, [4]⟩,
           ⟨(some 145), (.fad 5 (.s 6)), none, []⟩,
           ⟨(some 146), (.ldc (.s 145)), none, [6]⟩,
           ⟨(some 147), (.call (.c (.fn 87 [])) [(.s 142), (.s 144), (.s 146)]), none, [3, 5, 7]⟩,
           ⟨(some 138), (.mv (.s 147)), none, [8]⟩,
           ⟨(some 148), (.ext (.s 138) 0), none, [9]⟩,
           ⟨(some 149), (.ext (.s 138) 1), none, [9]⟩,
           ⟨(some 16), (.mv (.s 148)), none, [10, 8, 0, 1, 2, 3, 4, 5, 6, 7, 8, 9, 10]⟩,
           ⟨(some 17), (.mv (.s 149)), none, [11, 12, 0, 1, 2, 3, 4, 5, 6, 7, 8, 9, 10, 11, 12]⟩] true)
         (.seq (.region [
           ⟨(some 151), (.mv (.s 4)), none, []⟩,
           ⟨(some 152), (.mv (.s 7)), none, []⟩,
           ⟨(some 153), (.iad 9 (.s 151) (.s 152)), none, [0, 1]⟩,
           ⟨(some 154), (.lda 9 none (.s 153)), none, [2]⟩,
           ⟨(some 155), (.fad 3 (.s 6)), none, []⟩,
           ⟨(some 156), (.ldc (.s 155)), none, [4]⟩,
           ⟨(some 157), (.fad 5 (.s 6)), none, []⟩,
           ⟨(some 158), (.ldc (.s 157)), none, [6]⟩,
           ⟨(some 159), (.call (.c (.fn 95 [])) [(.s 154), (.s 156), (.s 158)]), none, [3, 5, 7]⟩,
           ⟨(some 150), (.mv (.s 159)), none, [8]⟩,
           ⟨(some 160), (.ext (.s 150) 0), none, [9]⟩,
           ⟨(some 161), (.ext (.s 150) 1), none, [9]⟩,
           ⟨(some 162), (.ext (.s 150) 2), none, [9]⟩,
           ⟨(some 18), (.new (.vals [.nils, (.int .i64 0), (.int .i64 0), (.int .i64 0), .nils, (.int .i64 0), (.int .i64 0), (.int .i64 0), (.bool false)])), none, []⟩,
           ⟨none, (.stc 9 (.s 18) (.s 160)), none, [13, 10, 8, 0, 1, 2, 3, 4, 5, 6, 7, 8, 9, 10, 13]⟩,
           ⟨(some 19), (.mv (.s 161)), none, [11, 14, 0, 1, 2, 3, 4, 5, 6, 7, 8, 9, 10, 11, 13, 14]⟩,
           ⟨(some 20), (.mv (.s 162)), none, [12, 15, 0, 1, 2, 3, 4, 5, 6, 7, 8, 9, 10, 11, 12, 13, 14, 15]⟩] true)
         (.seq (.region [
           ⟨(some 163), (.mv (.s 4)), none, []⟩,
           ⟨(some 164), (.mv (.s 7)), none, []⟩,
           ⟨(some 165), (.lda 9 none (.s 18)), none, []⟩,
           ⟨(some 166), (.iad 9 (.s 163) (.s 164)), none, [0, 1, 0, 1, 2]⟩,
           ⟨none, (.stc 9 (.s 166) (.s 165)), none, [3, 2, 0, 1, 2]⟩] false)
         (.seq (.region [
           ⟨(some 167), (.mv (.s 17)), none, []⟩,
           ⟨(some 168), (.mv (.s 20)), none, []⟩,
           ⟨(some 9), (.mv (.s 167)), none, [0, 0]⟩,
           ⟨(some 10), (.mv (.s 168)), none, [1, 2, 0, 1, 2]⟩] false)
         (.seq (.region [
           ⟨(some 169), (.mv (.s 16)), none, []⟩,
           ⟨(some 170), (.mv (.s 19)), none, []⟩,
           ⟨(some 171), (.bin .neq (.s 169) (.s 170)), none, [0, 1]⟩] false)
         (.cond (.s 171)
          (.seq (.region [
            ⟨(some 2), (.mv (.c (.bool false))), none, []⟩] false)
          .ret)
          .skip))))))
         (.seq (.region [
           ⟨(some 173), (.bin .eql (.s 63) (.c (.int .u8 3))), none, []⟩,
           ⟨(some 172), (.mv (.s 173)), none, [0]⟩] false)
         (.cond (.s 172)
          (.seq (.region [
            ⟨(some 175), (.mv (.s 3)), none, []⟩,
            ⟨(some 176), (.mv (.s 7)), none, []⟩,
            ⟨(some 177), (.iad 1 (.s 175) (.s 176)), none, [0, 1]⟩,
            ⟨(some 178), (.ldc (.s 177)), none, [2]⟩,
            ⟨(some 179), (.fad 3 (.s 6)), none, []⟩,
            ⟨(some 180), (.ldc (.s 179)), none, [4]⟩,
            ⟨(some 181), (.mv (.s 3)), none, []⟩,
            ⟨(some 182), (.mv (.s 8)), none, []⟩,
            ⟨(some 183), (.iad 1 (.s 181) (.s 182)), none, [6, 7]⟩,
            ⟨(some 184), (.ldc (.s 183)), none, [8]⟩,
            ⟨(some 185), (.fad 4 (.s 6)), none, []⟩,
            ⟨(some 186), (.ldc (.s 185)), none, [10]⟩,
            ⟨(some 187), (.fad 5 (.s 6)), none, []⟩,
            ⟨(some 188), (.ldc (.s 187)), none, [12]⟩,
            ⟨(some 189), (.call (.c (.fn 92 [])) [(.s 178), (.s 180), (.s 184), (.s 186), (.s 188)]), none, [3, 5, 9, 11, 13]⟩,
            ⟨(some 174), (.mv (.s 189)), none, [14]⟩,
            ⟨(some 190), (.ext (.s 174) 0), none, [15]⟩,
            ⟨(some 191), (.ext (.s 174) 1), none, [15]⟩,
            ⟨(some 21), (.mv (.s 190)), none, [16, 14, 0, 1, 2, 3, 4, 5, 6, 7, 8, 9, 10, 11, 12, 13, 14, 15, 16]⟩,
            ⟨(some 22), (.mv (.s 191)), none, [17, 18, 0, 1, 2, 3, 4, 5, 6, 7, 8, 9, 10, 11, 12, 13, 14, 15, 16, 17, 18]⟩] true)
          (.seq (.region [
            ⟨(some 193), (.mv (.s 4)), none, []⟩,
            ⟨(some 194), (.mv (.s 7)), none, []⟩,
            ⟨(some 195), (.fad 3 (.s 6)), none, []⟩,
            ⟨(some 196), (.ldc (.s 195)), none, [2]⟩,
            ⟨(some 197), (.mv (.s 8)), none, []⟩,
            ⟨(some 198), (.fad 4 (.s 6)), none, []⟩,
            ⟨(some 199), (.ldc (.s 198)), none, [5]⟩,
            ⟨(some 200), (.fad 5 (.s 6)), none, []⟩,
            ⟨(some 201), (.ldc (.s 200)), none, [7]⟩,
            ⟨(some 202), (.call (.c (.fn 96 [])) [(.s 193), (.s 194), (.s 196), (.s 197), (.s 199), (.s 201)]), none, [0, 1, 3, 4, 6, 8]⟩,
            ⟨(some 192), (.mv (.s 202)), none, [9]⟩,
            ⟨(some 203), (.ext (.s 192) 0), none, [10]⟩,
            ⟨(some 204), (.ext (.s 192) 1), none, [10]⟩,
            ⟨(some 205), (.ext (.s 192) 2), none, [10]⟩,
            ⟨(some 23), (.mv (.s 203)), none, [11, 9, 0, 1, 2, 3, 4, 5, 6, 7, 8, 9, 10, 11]⟩,
            ⟨(some 24), (.mv (.s 204)), none, [12, 14, 0, 1, 2, 3, 4, 5, 6, 7, 8, 9, 10, 11, 12, 14]⟩,
            ⟨(some 25), (.mv (.s 205)), none, [13, 15, 0, 1, 2, 3, 4, 5, 6, 7, 8, 9, 10, 11, 12, 13, 14, 15]⟩] false)
          (.seq (.region [
            ⟨(some 206), (.mv (.s 23)), none, []⟩,
            ⟨(some 4), (.mv (.s 206)), none, [0, 0]⟩] false)
          (.seq (.region [
            ⟨(some 207), (.mv (.s 22)), none, []⟩,
            ⟨(some 208), (.mv (.s 25)), none, []⟩,
            ⟨(some 9), (.mv (.s 207)), none, [0, 0]⟩,
            ⟨(some 10), (.mv (.s 208)), none, [1, 2, 0, 1, 2]⟩] false)
          (.seq (.region [
            ⟨(some 209), (.mv (.s 21)), none, []⟩,
            ⟨(some 210), (.mv (.s 24)), none, []⟩,
            ⟨(some 211), (.bin .neq (.s 209) (.s 210)), none, [0, 1]⟩] false)
          (.cond (.s 211)
           (.seq (.region [
             ⟨(some 2), (.mv (.c (.bool false))), none, []⟩] false)
           .ret)
           .skip))))))
          (.seq (.region [
            ⟨(some 64), (.mv (.s 3)), none, []⟩,
            ⟨(some 65), (.mv (.s 7)), none, []⟩,
            ⟨(some 66), (.iad 1 (.s 64) (.s 65)), none, [0, 1]⟩,
            ⟨(some 67), (.ldc (.s 66)), none, [2]⟩,
            ⟨(some 68), (.call (.c (.fn 97 [])) [(.s 67)]), none, [3]⟩] false)
          (.region [
            ⟨(some 69), (.mv (.s 4)), none, []⟩,
            ⟨(some 70), (.mv (.s 7)), none, []⟩,
            ⟨(some 71), (.iad 9 (.s 69) (.s 70)), none, [0, 1, 0, 1]⟩,
            ⟨(some 72), (.fad 8 (.s 71)), none, [2, 0, 1]⟩,
            ⟨none, (.stc 1 (.s 72) (.c (.bool true))), none, [3, 0, 1]⟩] false))))))))))))
     (.seq (.seq (.region [
       ⟨(some 212), (.mv (.s 9)), none, []⟩,
       ⟨(some 213), (.mv (.s 10)), none, []⟩,
       ⟨(some 214), (.bin .neq (.s 212) (.s 213)), none, [0, 1]⟩] false)
     (.cond (.s 214)
      (.seq (.region [
        ⟨(some 2), (.mv (.c (.bool false))), none, []⟩] false)
      .ret)
      .skip))
     (.seq (.region [
       ⟨(some 215), (.mv (.s 3)), none, []⟩,
       ⟨(some 216), (.len false (.s 215)), none, [0]⟩,
       ⟨(some 217), (.mv (.c (.int .i64 0))), none, []⟩] false)
     (.block 3
      (.loop ⟨1, [], false, [3, 4, 45, 46, 47, 215, 216, 217], []⟩
       (.seq (.region [
         ⟨(some 218), (.bin .lss (.s 217) (.s 216)), none, []⟩] false)
       (.seq (.cond (.s 218)
        .skip
        (.pre ⟨0, [], false, [3, 4, 45, 46, 47], []⟩ (.exit 3)))
       (.seq (.block 4
        (.seq (.region [
          ⟨(some 219), (.mv (.s 217)), none, []⟩,
          ⟨(some 220), (.iad 1 (.s 215) (.s 217)), none, []⟩,
          ⟨(some 221), (.ldc (.s 220)), none, [1]⟩,
          ⟨(some 26), (.mv (.s 219)), none, [0, 0, 1, 2]⟩,
          ⟨(some 27), (.mv (.s 221)), none, [2, 3, 0, 1, 2, 3]⟩] false)
        (.seq (.region [
          ⟨(some 222), (.mv (.c (.int .i64 0))), none, []⟩] false)
        (.block 5
         (.loop ⟨2, [], false, [3, 4, 26, 27, 45, 46, 47, 215, 216, 217, 222], []⟩
          (.seq (.region [
            ⟨(some 223), (.bin .lss (.s 222) (.c (.int .i64 2))), none, []⟩] false)
          (.seq (.cond (.s 223)
           .skip
           (.pre ⟨0, [], false, [3, 4, 45, 46, 47, 215, 216, 217], []⟩ (.exit 5)))
          (.seq (.block 6
           (.seq (.region [
             ⟨(some 224), (.mv (.s 222)), none, []⟩,
             ⟨(some 28), (.mv (.s 224)), none, [0, 0]⟩] false)
           (.seq (.region [
             ⟨(some 226), (.mv (.s 27)), none, []⟩,
             ⟨(some 227), (.mv (.s 28)), none, []⟩,
             ⟨(some 228), (.call (.c (.fn 89 [])) [(.s 226), (.s 227)]), none, [0, 1]⟩,
             ⟨(some 225), (.mv (.s 228)), none, [2]⟩,
             ⟨(some 229), (.ext (.s 225) 0), none, [3]⟩,
             ⟨(some 230), (.ext (.s 225) 1), none, [3]⟩,
             ⟨(some 231), (.ext (.s 225) 2), none, [3]⟩,
             ⟨(some 29), (.mv (.s 229)), none, [4, 2, 0, 1, 2, 3, 4]⟩,
             ⟨(some 30), (.mv (.s 230)), none, [5, 7, 0, 1, 2, 3, 4, 5, 7]⟩,
             ⟨(some 31), (.mv (.s 231)), none, [6, 8, 0, 1, 2, 3, 4, 5, 6, 7, 8]⟩] false)
           (.seq (.region [
             ⟨(some 232), (.mv (.s 4)), none, []⟩,
             ⟨(some 233), (.mv (.s 26)), none, []⟩,
             ⟨(some 234), (.mv (.s 28)), none, []⟩,
             ⟨(some 235), (.iad 9 (.s 232) (.s 233)), none, [0, 1]⟩,
             ⟨(some 236), (.fad 0 (.s 235)), none, [3]⟩,
             ⟨(some 237), (.iaa 2 4 (.s 236) (.s 234)), none, [4, 2]⟩,
             ⟨(some 238), (.lda 4 none (.s 237)), none, [5]⟩,
             ⟨(some 32), (.new (.vals [.nils, (.int .i64 0), (.int .i64 0), (.int .i64 0)])), none, []⟩,
             ⟨none, (.stc 4 (.s 32) (.s 238)), none, [7, 6, 0, 1, 2, 3, 4, 5, 6, 7]⟩] false)
           (.seq (.pre ⟨0, [(32, Sh.bool)], true, [243, 251], []⟩ (.region [
             ⟨(some 239), (.mv (.s 27)), none, []⟩,
             ⟨(some 240), (.mv (.s 28)), none, []⟩,
             ⟨(some 241), (.call (.c (.fn 90 [])) [(.s 239), (.s 240)]), none, [0, 1]⟩,
             ⟨(some 242), (.fad 0 (.s 32)), none, []⟩,
             ⟨(some 243), (.ldr (.s 242)), none, [3]⟩,
             ⟨(some 244), (.call (.c (.fn 23 [])) [(.s 241), (.s 243)]), none, [2, 4, 2]⟩,
             ⟨(some 245), (.un .not (.s 244)), none, [5]⟩,
             ⟨(some 246), (.mv (.s 245)), none, [6, 5]⟩,
             ⟨(some 247), (.mv (.s 27)), (some (246, false)), [7]⟩,
             ⟨(some 248), (.mv (.s 28)), (some (246, false)), [7]⟩,
             ⟨(some 249), (.call (.c (.fn 91 [])) [(.s 247), (.s 248)]), (some (246, false)), [8, 9, 7, 7]⟩,
             ⟨(some 250), (.fad 0 (.s 32)), (some (246, false)), [7]⟩,
             ⟨(some 251), (.ldr (.s 250)), (some (246, false)), [11, 7]⟩,
             ⟨(some 252), (.len false (.s 251)), (some (246, false)), [12, 7]⟩,
             ⟨(some 253), (.bin .neq (.s 249) (.s 252)), (some (246, false)), [10, 13, 7]⟩,
             ⟨(some 254), (.pick (.s 246) (.c (.bool true)) (.s 253)), none, [7, 14]⟩,
             ⟨(some 255), (.mv (.s 254)), none, [15, 10]⟩,
             ⟨(some 256), (.mv (.s 29)), (some (255, false)), [16]⟩,
             ⟨(some 257), (.fad 1 (.s 32)), (some (255, false)), [16]⟩,
             ⟨(some 258), (.ldc (.s 257)), (some (255, false)), [18, 16]⟩,
             ⟨(some 259), (.bin .neq (.s 256) (.s 258)), (some (255, false)), [17, 19, 16]⟩,
             ⟨(some 260), (.pick (.s 255) (.c (.bool true)) (.s 259)), none, [16, 20]⟩,
             ⟨(some 261), (.mv (.s 260)), none, [21, 16]⟩,
             ⟨(some 262), (.mv (.s 30)), (some (261, false)), [22]⟩,
             ⟨(some 263), (.fad 2 (.s 32)), (some (261, false)), [22]⟩,
             ⟨(some 264), (.ldc (.s 263)), (some (261, false)), [24, 22]⟩,
             ⟨(some 265), (.bin .neq (.s 262) (.s 264)), (some (261, false)), [23, 25, 22]⟩,
             ⟨(some 266), (.pick (.s 261) (.c (.bool true)) (.s 265)), none, [22, 26]⟩,
             ⟨(some 267), (.mv (.s 266)), none, [27, 22]⟩,
             ⟨(some 268), (.mv (.s 31)), (some (267, false)), [28]⟩,
             ⟨(some 269), (.fad 3 (.s 32)), (some (267, false)), [28]⟩,
             ⟨(some 270), (.ldc (.s 269)), (some (267, false)), [30, 28]⟩,
             ⟨(some 271), (.bin .neq (.s 268) (.s 270)), (some (267, false)), [29, 31, 28]⟩,
             ⟨(some 272), (.pick (.s 267) (.c (.bool true)) (.s 271)), none, [28, 32]⟩,
             ⟨(some 273), (.mv (.s 272)), none, [33, 28]⟩,
             ⟨(some 274), (.mv (.s 27)), (some (273, false)), [34]⟩,
             ⟨(some 275), (.call (.c (.fn 98 [])) [(.s 274)]), (some (273, false)), [35, 34, 34]⟩,
             ⟨(some 276), (.mv (.s 4)), (some (273, false)), [34]⟩,
             ⟨(some 277), (.mv (.s 26)), (some (273, false)), [34]⟩,
             ⟨(some 278), (.iad 9 (.s 276) (.s 277)), (some (273, false)), [37, 38, 34]⟩,
             ⟨(some 279), (.fad 8 (.s 278)), (some (273, false)), [39, 34]⟩,
             ⟨(some 280), (.ldc (.s 279)), (some (273, false)), [40, 34]⟩,
             ⟨(some 281), (.eqn .b false (.s 275) (.s 280)), (some (273, false)), [36, 41, 34]⟩,
             ⟨(some 282), (.pick (.s 273) (.c (.bool true)) (.s 281)), none, [34, 42]⟩] true))
           (.cond (.s 282)
            (.seq (.region [
              ⟨(some 2), (.mv (.c (.bool false))), none, []⟩] false)
            .ret)
            .skip))))))
          (.region [
            ⟨(some 283), (.bin .add (.s 222) (.c (.int .i64 1))), none, []⟩,
            ⟨(some 222), (.mv (.s 283)), none, [0]⟩] false)))))))))
       (.region [
         ⟨(some 284), (.bin .add (.s 217) (.c (.int .i64 1))), none, []⟩,
         ⟨(some 217), (.mv (.s 284)), none, [0]⟩] false))))))))))))))))
    (.region [
      ⟨(some 285), (.bin .add (.s 47) (.c (.int .i64 1))), none, []⟩,
      ⟨(some 47), (.mv (.s 285)), none, [0]⟩] false)))))))
  (.seq (.region [
    ⟨(some 286), (.call (.c (.fn 84 [])) []), none, []⟩,
    ⟨(some 2), (.mv (.s 286)), none, [0, 0, 0]⟩] false)
  .ret))))), false, (some [(Sh.sl (Sh.pr (Sh.int .u8) (Sh.pr Sh.bool (Sh.pr Sh.bool (Sh.pr (Sh.int .i64) (Sh.pr (Sh.int .i64) (Sh.pr (Sh.int .i64) (Sh.sl (Sh.int .u8)))))))))]), (some Sh.bool), false⟩

/-- euphroe/euphroelaw38.alive -/
def k84 : Fun := ⟨0, 46, [0, 1, 2, 3, 14], [(.tmp 0)],
  (.seq (.region [
    ⟨(some 0), (.mv (.c (.bool false))), none, []⟩] false)
  (.seq (.region [
    ⟨(some 4), (.build (.ints .u8 [0, 0, 0, 0, 0, 0, 0, 0, 0, 0, 0, 0, 0, 0, 0, 0, 0, 0, 0, 0, 0, 0, 0, 0, 0, 0, 0, 0, 0, 0, 0, 0]) [(0, 1, (.c (.int .u8 7)))]), none, []⟩,
    ⟨(some 5), (.call (.c (.fn 85 [])) [(.s 4)]), none, [0]⟩,
    ⟨(some 1), (.mv (.s 5)), none, [1, 1, 0, 1]⟩] false)
  (.seq (.seq (.region [
    ⟨(some 6), (.mv (.s 1)), none, []⟩,
    ⟨(some 7), (.eqn .p false (.s 6) (.c .nilp)), none, [0]⟩,
    ⟨(some 8), (.mv (.s 7)), none, [1]⟩,
    ⟨(some 9), (.mv (.s 1)), (some (8, false)), [2]⟩,
    ⟨(some 10), (.bsl 3 1 (.ints .u8 [0, 0, 0]) [(0, 1, (.c (.int .u8 97))), (1, 1, (.c (.int .u8 98))), (2, 1, (.c (.int .u8 99)))]), (some (8, false)), [2]⟩,
    ⟨(some 11), (.cvs (.s 10)), (some (8, false)), [4, 2]⟩,
    ⟨(some 12), (.call (.c (.fn 86 [])) [(.s 9), (.c (.int .i64 0)), (.s 11)]), (some (8, false)), [3, 5, 2, 2]⟩,
    ⟨(some 13), (.bin .neq (.s 12) (.c (.int .i64 0))), (some (8, false)), [6, 2]⟩,
    ⟨(some 14), (.pick (.s 8) (.c (.bool true)) (.s 13)), none, [2, 7]⟩] false)
  (.cond (.s 14)
   (.seq (.region [
     ⟨(some 0), (.mv (.c (.bool false))), none, []⟩] false)
   .ret)
   .skip))
  (.seq (.region [
    ⟨(some 16), (.mv (.s 1)), none, []⟩,
    ⟨(some 17), (.call (.c (.fn 88 [])) [(.s 16), (.c (.int .i64 0)), (.c (.int .i64 2))]), none, [0]⟩,
    ⟨(some 15), (.mv (.s 17)), none, [1]⟩,
    ⟨(some 18), (.ext (.s 15) 0), none, [2]⟩,
    ⟨(some 19), (.ext (.s 15) 1), none, [2]⟩,
    ⟨(some 2), (.mv (.s 18)), none, [3, 1, 0, 1, 2, 3]⟩,
    ⟨(some 3), (.mv (.s 19)), none, [4, 5, 0, 1, 2, 3, 4, 5]⟩] false)
  (.seq (.region [
    ⟨(some 20), (.mv (.s 2)), none, []⟩,
    ⟨(some 21), (.b2s (.s 20)), none, [0]⟩,
    ⟨(some 22), (.bin .eql (.s 21) (.c (.str [97, 98]))), none, [1]⟩,
    ⟨(some 23), (.mv (.s 22)), none, [2]⟩,
    ⟨(some 24), (.mv (.s 3)), (some (23, true)), [3]⟩,
    ⟨(some 25), (.bin .eql (.s 24) (.c (.int .i64 0))), (some (23, true)), [4, 3]⟩,
    ⟨(some 26), (.pick (.s 23) (.s 25) (.c (.bool false))), none, [3, 5]⟩,
    ⟨(some 27), (.mv (.s 26)), none, [6, 3]⟩,
    ⟨(some 28), (.mv (.s 1)), (some (27, true)), [7]⟩,
    ⟨(some 29), (.call (.c (.fn 91 [])) [(.s 28), (.c (.int .i64 0))]), (some (27, true)), [8, 7, 7]⟩,
    ⟨(some 30), (.bin .eql (.s 29) (.c (.int .i64 1))), (some (27, true)), [9, 7]⟩,
    ⟨(some 31), (.pick (.s 27) (.s 30) (.c (.bool false))), none, [7, 10]⟩,
    ⟨(some 32), (.mv (.s 31)), none, [11, 9]⟩,
    ⟨(some 33), (.mv (.s 1)), (some (32, true)), [12]⟩,
    ⟨(some 34), (.call (.c (.fn 99 [])) [(.s 33)]), (some (32, true)), [13, 12, 12]⟩,
    ⟨(some 35), (.build (.ints .u8 [0, 0, 0, 0, 0, 0, 0, 0, 0, 0, 0, 0, 0, 0, 0, 0, 0, 0, 0, 0, 0, 0, 0, 0, 0, 0, 0, 0, 0, 0, 0, 0]) [(0, 1, (.c (.int .u8 7)))]), (some (32, true)), [12]⟩,
    ⟨(some 36), (.eqa 32 false (.s 34) (.s 35)), (some (32, true)), [14, 15, 12]⟩,
    ⟨(some 37), (.pick (.s 32) (.s 36) (.c (.bool false))), none, [12, 16]⟩,
    ⟨(some 38), (.mv (.s 37)), none, [17, 14]⟩,
    ⟨(some 39), (.mv (.s 1)), (some (38, true)), [18]⟩,
    ⟨(some 40), (.call (.c (.fn 98 [])) [(.s 39)]), (some (38, true)), [19, 18, 18]⟩,
    ⟨(some 41), (.pick (.s 38) (.s 40) (.c (.bool false))), none, [18, 20]⟩,
    ⟨(some 42), (.mv (.s 41)), none, [21, 20]⟩,
    ⟨(some 43), (.pick (.s 42) (.c (.bool true)) (.c (.bool false))), none, [22]⟩,
    ⟨(some 44), (.mv (.s 43)), none, [23, 22]⟩,
    ⟨(some 45), (.pick (.s 44) (.c (.bool true)) (.c (.bool false))), none, [24]⟩,
    ⟨(some 0), (.mv (.s 45)), none, [25, 24, 0, 1, 2, 3, 4, 5, 6, 7, 8, 9, 10, 11, 12, 13, 14, 15, 16, 17, 18, 19, 20, 21, 22, 23, 24, 25]⟩] false)
  .ret))))), false, (some []), (some Sh.bool), false⟩

/-- euphroe/chans.New -/
def k85 : Fun := ⟨1, 6, [0, 1, 2], [(.tmp 2)],
  (.seq (.region [
    ⟨(some 1), (.box (.s 0)), none, []⟩,
    ⟨(some 2), (.mv (.c .nilp)), none, []⟩] false)
  (.seq (.region [
    ⟨(some 3), (.lda 32 (some .u8) (.s 1)), none, []⟩,
    ⟨(some 4), (.build (.vals [(.bool false), (.int .u8 0), (.int .u8 0), (.int .u8 0), (.int .u8 0), (.int .u8 0), (.int .u8 0), (.int .u8 0), (.int .u8 0), (.int .u8 0), (.int .u8 0), (.int .u8 0), (.int .u8 0), (.int .u8 0), (.int .u8 0), (.int .u8 0), (.int .u8 0), (.int .u8 0), (.int .u8 0), (.int .u8 0), (.int .u8 0), (.int .u8 0), (.int .u8 0), (.int .u8 0), (.int .u8 0), (.int .u8 0), (.int .u8 0), (.int .u8 0), (.int .u8 0), (.int .u8 0), (.int .u8 0), (.int .u8 0), (.int .u8 0), .nils, (.int .i64 0), (.int .i64 0), (.int .i64 0), .nils, (.int .i64 0), (.int .i64 0), (.int .i64 0), (.bool false)]) [(0, 1, (.c (.bool true))), (1, 32, (.s 3))]), none, [0]⟩,
    ⟨(some 5), (.box (.s 4)), none, [1]⟩,
    ⟨(some 2), (.mv (.s 5)), none, [2, 0, 1, 2]⟩] false)
  (.pre ⟨0, [(2, (Sh.st (Sh.pr Sh.bool (Sh.pr (Sh.int .u8) (Sh.pr (Sh.int .u8) (Sh.pr (Sh.int .u8) (Sh.pr (Sh.int .u8) (Sh.pr (Sh.int .u8) (Sh.pr (Sh.int .u8) (Sh.pr (Sh.int .u8) (Sh.pr (Sh.int .u8) (Sh.pr (Sh.int .u8) (Sh.pr (Sh.int .u8) (Sh.pr (Sh.int .u8) (Sh.pr (Sh.int .u8) (Sh.pr (Sh.int .u8) (Sh.pr (Sh.int .u8) (Sh.pr (Sh.int .u8) (Sh.pr (Sh.int .u8) (Sh.pr (Sh.int .u8) (Sh.pr (Sh.int .u8) (Sh.pr (Sh.int .u8) (Sh.pr (Sh.int .u8) (Sh.pr (Sh.int .u8) (Sh.pr (Sh.int .u8) (Sh.pr (Sh.int .u8) (Sh.pr (Sh.int .u8) (Sh.pr (Sh.int .u8) (Sh.pr (Sh.int .u8) (Sh.pr (Sh.int .u8) (Sh.pr (Sh.int .u8) (Sh.pr (Sh.int .u8) (Sh.pr (Sh.int .u8) (Sh.pr (Sh.int .u8) (Sh.pr (Sh.int .u8) (Sh.pr (Sh.sl (Sh.int .u8)) (Sh.pr (Sh.int .i64) (Sh.pr (Sh.int .i64) (Sh.pr (Sh.int .i64) (Sh.pr (Sh.sl (Sh.int .u8)) (Sh.pr (Sh.int .i64) (Sh.pr (Sh.int .i64) (Sh.pr (Sh.int .i64) Sh.bool)))))))))))))))))))))))))))))))))))))))))))], true, [], []⟩ .ret))), false, none, none, false⟩

/-- (*euphroe/chans.Chan).Put -/
def k86 : Fun := ⟨3, 48, [0, 1, 2, 6, 7, 8, 9, 14, 22], [(.tmp 6)],
  (.seq (.region [
    ⟨(some 6), (.mv (.c (.int .i64 0))), none, []⟩] false)
  (.seq (.seq (.region [
    ⟨(some 10), (.mv (.s 0)), none, []⟩,
    ⟨(some 11), (.mv (.s 1)), none, []⟩,
    ⟨(some 12), (.call (.c (.fn 106 [])) [(.s 10), (.s 11), (.c (.int .i64 0))]), none, [0, 1]⟩,
    ⟨(some 7), (.mv (.s 12)), none, [2, 2, 0, 1, 2]⟩] false)
  (.seq (.region [
    ⟨(some 13), (.mv (.s 7)), none, []⟩,
    ⟨(some 14), (.bin .neq (.s 13) (.c (.int .i64 0))), none, [0]⟩] false)
  (.cond (.s 14)
   (.seq (.region [
     ⟨(some 15), (.mv (.s 7)), none, []⟩,
     ⟨(some 6), (.mv (.s 15)), none, [0, 0]⟩] false)
   (.pre ⟨0, [(0, (Sh.st (Sh.pr Sh.bool (Sh.pr (Sh.int .u8) (Sh.pr (Sh.int .u8) (Sh.pr (Sh.int .u8) (Sh.pr (Sh.int .u8) (Sh.pr (Sh.int .u8) (Sh.pr (Sh.int .u8) (Sh.pr (Sh.int .u8) (Sh.pr (Sh.int .u8) (Sh.pr (Sh.int .u8) (Sh.pr (Sh.int .u8) (Sh.pr (Sh.int .u8) (Sh.pr (Sh.int .u8) (Sh.pr (Sh.int .u8) (Sh.pr (Sh.int .u8) (Sh.pr (Sh.int .u8) (Sh.pr (Sh.int .u8) (Sh.pr (Sh.int .u8) (Sh.pr (Sh.int .u8) (Sh.pr (Sh.int .u8) (Sh.pr (Sh.int .u8) (Sh.pr (Sh.int .u8) (Sh.pr (Sh.int .u8) (Sh.pr (Sh.int .u8) (Sh.pr (Sh.int .u8) (Sh.pr (Sh.int .u8) (Sh.pr (Sh.int .u8) (Sh.pr (Sh.int .u8) (Sh.pr (Sh.int .u8) (Sh.pr (Sh.int .u8) (Sh.pr (Sh.int .u8) (Sh.pr (Sh.int .u8) (Sh.pr (Sh.int .u8) (Sh.pr (Sh.sl (Sh.int .u8)) (Sh.pr (Sh.int .i64) (Sh.pr (Sh.int .i64) (Sh.pr (Sh.int .i64) (Sh.pr (Sh.sl (Sh.int .u8)) (Sh.pr (Sh.int .i64) (Sh.pr (Sh.int .i64) (Sh.pr (Sh.int .i64) Sh.bool)))))))))))))))))))))))))))))))))))))))))))], true, [], []⟩ .ret))
   .skip)))
  (.seq (.seq (.region [
    ⟨(some 16), (.mv (.s 0)), none, []⟩,
    ⟨(some 17), (.mv (.s 1)), none, []⟩,
    ⟨(some 18), (.mv (.s 2)), none, []⟩,
    ⟨(some 19), (.len false (.s 18)), none, [2]⟩,
    ⟨(some 20), (.call (.c (.fn 107 [])) [(.s 16), (.s 17), (.s 19)]), none, [0, 1, 3]⟩,
    ⟨(some 8), (.mv (.s 20)), none, [4, 4, 0, 1, 2, 3, 4]⟩] false)
  (.seq (.region [
    ⟨(some 21), (.mv (.s 8)), none, []⟩,
    ⟨(some 22), (.bin .neq (.s 21) (.c (.int .i64 0))), none, [0]⟩] false)
  (.cond (.s 22)
   (.seq (.region [
     ⟨(some 23), (.mv (.s 8)), none, []⟩,
     ⟨(some 6), (.mv (.s 23)), none, [0, 0]⟩] false)
   (.pre ⟨0, [(0, (Sh.st (Sh.pr Sh.bool (Sh.pr (Sh.int .u8) (Sh.pr (Sh.int .u8) (Sh.pr (Sh.int .u8) (Sh.pr (Sh.int .u8) (Sh.pr (Sh.int .u8) (Sh.pr (Sh.int .u8) (Sh.pr (Sh.int .u8) (Sh.pr (Sh.int .u8) (Sh.pr (Sh.int .u8) (Sh.pr (Sh.int .u8) (Sh.pr (Sh.int .u8) (Sh.pr (Sh.int .u8) (Sh.pr (Sh.int .u8) (Sh.pr (Sh.int .u8) (Sh.pr (Sh.int .u8) (Sh.pr (Sh.int .u8) (Sh.pr (Sh.int .u8) (Sh.pr (Sh.int .u8) (Sh.pr (Sh.int .u8) (Sh.pr (Sh.int .u8) (Sh.pr (Sh.int .u8) (Sh.pr (Sh.int .u8) (Sh.pr (Sh.int .u8) (Sh.pr (Sh.int .u8) (Sh.pr (Sh.int .u8) (Sh.pr (Sh.int .u8) (Sh.pr (Sh.int .u8) (Sh.pr (Sh.int .u8) (Sh.pr (Sh.int .u8) (Sh.pr (Sh.int .u8) (Sh.pr (Sh.int .u8) (Sh.pr (Sh.int .u8) (Sh.pr (Sh.sl (Sh.int .u8)) (Sh.pr (Sh.int .i64) (Sh.pr (Sh.int .i64) (Sh.pr (Sh.int .i64) (Sh.pr (Sh.sl (Sh.int .u8)) (Sh.pr (Sh.int .i64) (Sh.pr (Sh.int .i64) (Sh.pr (Sh.int .i64) Sh.bool)))))))))))))))))))))))))))))))))))))))))))], true, [], []⟩ .ret))
   .skip)))
  (.seq (.region [
    ⟨(some 24), (.mv (.s 0)), none, []⟩,
    ⟨(some 25), (.mv (.s 1)), none, []⟩,
    ⟨(some 26), (.nilc (.s 24)), none, [0]⟩,
    ⟨(some 27), (.fad 33 (.s 26)), none, [2]⟩,
    ⟨(some 28), (.iaa 2 4 (.s 27) (.s 25)), none, [3, 1]⟩,
    ⟨(some 9), (.mv (.s 28)), none, [4, 0, 1, 2, 3, 4]⟩] false)
  (.seq (.region [
    ⟨(some 29), (.mv (.s 9)), none, []⟩,
    ⟨(some 30), (.mv (.s 9)), none, []⟩,
    ⟨(some 31), (.nilc (.s 30)), none, [1]⟩,
    ⟨(some 32), (.fad 0 (.s 31)), none, [2]⟩,
    ⟨(some 33), (.ldc (.s 32)), none, [3]⟩,
    ⟨(some 34), (.call (.c (.fn 108 [])) [(.s 33)]), none, [4]⟩,
    ⟨(some 35), (.mv (.s 2)), none, []⟩,
    ⟨(some 36), (.app 1 1 (.s 34) (.s 35)), none, [5, 6, 5]⟩,
    ⟨(some 37), (.nilc (.s 29)), none, [0, 0, 1, 2, 3, 4, 5, 6, 7]⟩,
    ⟨(some 38), (.fad 0 (.s 37)), none, [8, 0, 1, 2, 3, 4, 5, 6, 7]⟩,
    ⟨none, (.stc 1 (.s 38) (.s 36)), none, [9, 7, 7, 0, 1, 2, 3, 4, 5, 6, 7]⟩] false)
  (.seq (.region [
    ⟨(some 39), (.mv (.s 9)), none, []⟩,
    ⟨(some 40), (.nilc (.s 39)), none, [0]⟩,
    ⟨(some 41), (.fad 1 (.s 40)), none, [1]⟩,
    ⟨(some 42), (.ldc (.s 41)), none, [2]⟩,
    ⟨(some 43), (.mv (.s 2)), none, []⟩,
    ⟨(some 44), (.len false (.s 43)), none, [4]⟩,
    ⟨(some 45), (.bin .add (.s 42) (.s 44)), none, [3, 5]⟩,
    ⟨(some 46), (.nilc (.s 39)), none, [0, 0, 1, 2, 3, 4, 5, 6]⟩,
    ⟨(some 47), (.fad 1 (.s 46)), none, [7, 0, 1, 2, 3, 4, 5, 6]⟩,
    ⟨none, (.stc 1 (.s 47) (.s 45)), none, [8, 6, 0, 1, 2, 3, 4, 5, 6]⟩] false)
  (.seq (.region [
    ⟨(some 6), (.mv (.c (.int .i64 0))), none, []⟩] false)
  (.pre ⟨0, [(0, (Sh.st (Sh.pr Sh.bool (Sh.pr (Sh.int .u8) (Sh.pr (Sh.int .u8) (Sh.pr (Sh.int .u8) (Sh.pr (Sh.int .u8) (Sh.pr (Sh.int .u8) (Sh.pr (Sh.int .u8) (Sh.pr (Sh.int .u8) (Sh.pr (Sh.int .u8) (Sh.pr (Sh.int .u8) (Sh.pr (Sh.int .u8) (Sh.pr (Sh.int .u8) (Sh.pr (Sh.int .u8) (Sh.pr (Sh.int .u8) (Sh.pr (Sh.int .u8) (Sh.pr (Sh.int .u8) (Sh.pr (Sh.int .u8) (Sh.pr (Sh.int .u8) (Sh.pr (Sh.int .u8) (Sh.pr (Sh.int .u8) (Sh.pr (Sh.int .u8) (Sh.pr (Sh.int .u8) (Sh.pr (Sh.int .u8) (Sh.pr (Sh.int .u8) (Sh.pr (Sh.int .u8) (Sh.pr (Sh.int .u8) (Sh.pr (Sh.int .u8) (Sh.pr (Sh.int .u8) (Sh.pr (Sh.int .u8) (Sh.pr (Sh.int .u8) (Sh.pr (Sh.int .u8) (Sh.pr (Sh.int .u8) (Sh.pr (Sh.int .u8) (Sh.pr (Sh.sl (Sh.int .u8)) (Sh.pr (Sh.int .i64) (Sh.pr (Sh.int .i64) (Sh.pr (Sh.int .i64) (Sh.pr (Sh.sl (Sh.int .u8)) (Sh.pr (Sh.int .i64) (Sh.pr (Sh.int .i64) (Sh.pr (Sh.int .i64) Sh.bool)))))))))))))))))))))))))))))))))))))))))))], true, [], []⟩ .ret)))))))), false, none, none, false⟩

/-- (*euphroe/chans.Chan).Lose -/
def k87 : Fun := ⟨3, 39, [0, 1, 2, 6, 7, 8, 9, 15], [(.tmp 6), (.tmp 7)],
  (.seq (.region [
    ⟨(some 6), (.mv (.c (.int .i64 0))), none, []⟩,
    ⟨(some 7), (.mv (.c (.int .i64 0))), none, [0]⟩] false)
  (.seq (.seq (.region [
    ⟨(some 10), (.mv (.s 0)), none, []⟩,
    ⟨(some 11), (.mv (.s 1)), none, []⟩,
    ⟨(some 12), (.mv (.s 2)), none, []⟩,
    ⟨(some 13), (.call (.c (.fn 106 [])) [(.s 10), (.s 11), (.s 12)]), none, [0, 1, 2]⟩,
    ⟨(some 8), (.mv (.s 13)), none, [3, 3, 0, 1, 2, 3]⟩] false)
  (.seq (.region [
    ⟨(some 14), (.mv (.s 8)), none, []⟩,
    ⟨(some 15), (.bin .neq (.s 14) (.c (.int .i64 0))), none, [0]⟩] false)
  (.cond (.s 15)
   (.seq (.region [
     ⟨(some 16), (.mv (.s 8)), none, []⟩,
     ⟨(some 6), (.mv (.c (.int .i64 0))), none, []⟩,
     ⟨(some 7), (.mv (.s 16)), none, [0, 1, 0, 1]⟩] false)
   .ret)
   .skip)))
  (.seq (.region [
    ⟨(some 17), (.mv (.s 0)), none, []⟩,
    ⟨(some 18), (.mv (.s 1)), none, []⟩,
    ⟨(some 19), (.nilc (.s 17)), none, [0]⟩,
    ⟨(some 20), (.fad 33 (.s 19)), none, [2]⟩,
    ⟨(some 21), (.iaa 2 4 (.s 20) (.s 18)), none, [3, 1]⟩,
    ⟨(some 22), (.mv (.s 2)), none, []⟩,
    ⟨(some 23), (.call (.c (.fn 109 [])) [(.s 21), (.s 22)]), none, [4, 5]⟩,
    ⟨(some 24), (.len false (.s 23)), none, [6]⟩,
    ⟨(some 9), (.mv (.s 24)), none, [7, 6, 0, 1, 2, 3, 4, 5, 6, 7]⟩] false)
  (.seq (.region [
    ⟨(some 25), (.mv (.s 0)), none, []⟩,
    ⟨(some 26), (.mv (.s 1)), none, []⟩,
    ⟨(some 27), (.nilc (.s 25)), none, [0]⟩,
    ⟨(some 28), (.fad 33 (.s 27)), none, [2]⟩,
    ⟨(some 29), (.iaa 2 4 (.s 28) (.s 26)), none, [3, 1]⟩,
    ⟨(some 30), (.fad 3 (.s 29)), none, [4]⟩,
    ⟨(some 31), (.ldc (.s 30)), none, [5]⟩,
    ⟨(some 32), (.mv (.s 9)), none, []⟩,
    ⟨(some 33), (.bin .add (.s 31) (.s 32)), none, [6, 7]⟩,
    ⟨(some 34), (.nilc (.s 25)), none, [0]⟩,
    ⟨(some 35), (.fad 33 (.s 34)), none, [9]⟩,
    ⟨(some 36), (.iaa 2 4 (.s 35) (.s 26)), none, [10, 1, 0, 1, 2, 3, 4, 5, 6, 7, 8]⟩,
    ⟨(some 37), (.fad 3 (.s 36)), none, [11, 0, 1, 2, 3, 4, 5, 6, 7, 8]⟩,
    ⟨none, (.stc 1 (.s 37) (.s 33)), none, [12, 8, 0, 1, 2, 3, 4, 5, 6, 7, 8]⟩] true)
  (.seq (.region [
    ⟨(some 38), (.mv (.s 9)), none, []⟩,
    ⟨(some 6), (.mv (.s 38)), none, [0, 0]⟩,
    ⟨(some 7), (.mv (.c (.int .i64 0))), none, [1, 0, 1]⟩] false)
  .ret))))), false, none, none, false⟩

/-- (*euphroe/chans.Chan).Take -/
def k88 : Fun := ⟨3, 39, [0, 1, 2, 6, 7, 8, 9, 15], [(.tmp 6), (.tmp 7)],
  (.seq (.region [
    ⟨(some 6), (.mv (.c .nils)), none, []⟩,
    ⟨(some 7), (.mv (.c (.int .i64 0))), none, [0]⟩] false)
  (.seq (.seq (.region [
    ⟨(some 10), (.mv (.s 0)), none, []⟩,
    ⟨(some 11), (.mv (.s 1)), none, []⟩,
    ⟨(some 12), (.mv (.s 2)), none, []⟩,
    ⟨(some 13), (.call (.c (.fn 106 [])) [(.s 10), (.s 11), (.s 12)]), none, [0, 1, 2]⟩,
    ⟨(some 8), (.mv (.s 13)), none, [3, 3, 0, 1, 2, 3]⟩] false)
  (.seq (.region [
    ⟨(some 14), (.mv (.s 8)), none, []⟩,
    ⟨(some 15), (.bin .neq (.s 14) (.c (.int .i64 0))), none, [0]⟩] false)
  (.cond (.s 15)
   (.seq (.region [
     ⟨(some 16), (.mv (.s 8)), none, []⟩,
     ⟨(some 6), (.mv (.c .nils)), none, []⟩,
     ⟨(some 7), (.mv (.s 16)), none, [0, 1, 0, 1]⟩] false)
   (.pre ⟨0, [(6, (Sh.sl (Sh.int .u8)))], true, [], []⟩ .ret))
   .skip)))
  (.seq (.region [
    ⟨(some 17), (.mv (.s 0)), none, []⟩,
    ⟨(some 18), (.mv (.s 1)), none, []⟩,
    ⟨(some 19), (.nilc (.s 17)), none, [0]⟩,
    ⟨(some 20), (.fad 33 (.s 19)), none, [2]⟩,
    ⟨(some 21), (.iaa 2 4 (.s 20) (.s 18)), none, [3, 1]⟩,
    ⟨(some 22), (.mv (.s 2)), none, []⟩,
    ⟨(some 23), (.call (.c (.fn 109 [])) [(.s 21), (.s 22)]), none, [4, 5]⟩,
    ⟨(some 9), (.mv (.s 23)), none, [6, 6, 0, 1, 2, 3, 4, 5, 6]⟩] false)
  (.seq (.region [
    ⟨(some 24), (.mv (.s 0)), none, []⟩,
    ⟨(some 25), (.mv (.s 1)), none, []⟩,
    ⟨(some 26), (.nilc (.s 24)), none, [0]⟩,
    ⟨(some 27), (.fad 33 (.s 26)), none, [2]⟩,
    ⟨(some 28), (.iaa 2 4 (.s 27) (.s 25)), none, [3, 1]⟩,
    ⟨(some 29), (.fad 2 (.s 28)), none, [4]⟩,
    ⟨(some 30), (.ldc (.s 29)), none, [5]⟩,
    ⟨(some 31), (.mv (.s 9)), none, []⟩,
    ⟨(some 32), (.len false (.s 31)), none, [7]⟩,
    ⟨(some 33), (.bin .add (.s 30) (.s 32)), none, [6, 8]⟩,
    ⟨(some 34), (.nilc (.s 24)), none, [0]⟩,
    ⟨(some 35), (.fad 33 (.s 34)), none, [10]⟩,
    ⟨(some 36), (.iaa 2 4 (.s 35) (.s 25)), none, [11, 1, 0, 1, 2, 3, 4, 5, 6, 7, 8, 9]⟩,
    ⟨(some 37), (.fad 2 (.s 36)), none, [12, 0, 1, 2, 3, 4, 5, 6, 7, 8, 9]⟩,
    ⟨none, (.stc 1 (.s 37) (.s 33)), none, [13, 9, 0, 1, 2, 3, 4, 5, 6, 7, 8, 9]⟩] true)
  (.seq (.region [
    ⟨(some 38), (.mv (.s 9)), none, []⟩,
    ⟨(some 6), (.mv (.s 38)), none, [0, 0]⟩,
    ⟨(some 7), (.mv (.c (.int .i64 0))), none, [1, 0, 1]⟩] false)
  (.pre ⟨0, [(6, (Sh.sl (Sh.int .u8)))], true, [], []⟩ .ret)))))), false, none, none, false⟩

/-- (*euphroe/chans.Chan).Counts -/
def k89 : Fun := ⟨2, 24, [0, 1, 4, 5, 6, 7, 11], [(.tmp 4), (.tmp 5), (.tmp 6)],
  (.seq (.region [
    ⟨(some 4), (.mv (.c (.int .i64 0))), none, []⟩,
    ⟨(some 5), (.mv (.c (.int .i64 0))), none, [0]⟩,
    ⟨(some 6), (.mv (.c (.int .i64 0))), none, [1]⟩] false)
  (.seq (.seq (.region [
    ⟨(some 8), (.mv (.s 0)), none, []⟩,
    ⟨(some 9), (.mv (.s 1)), none, []⟩,
    ⟨(some 10), (.call (.c (.fn 106 [])) [(.s 8), (.s 9), (.c (.int .i64 0))]), none, [0, 1]⟩,
    ⟨(some 11), (.bin .neq (.s 10) (.c (.int .i64 0))), none, [2]⟩] false)
  (.cond (.s 11)
   (.seq (.region [
     ⟨(some 4), (.mv (.c (.int .i64 0))), none, []⟩,
     ⟨(some 5), (.mv (.c (.int .i64 0))), none, [0, 0]⟩,
     ⟨(some 6), (.mv (.c (.int .i64 0))), none, [1, 0, 1]⟩] false)
   .ret)
   .skip))
  (.seq (.region [
    ⟨(some 12), (.mv (.s 0)), none, []⟩,
    ⟨(some 13), (.mv (.s 1)), none, []⟩,
    ⟨(some 14), (.nilc (.s 12)), none, [0]⟩,
    ⟨(some 15), (.fad 33 (.s 14)), none, [2]⟩,
    ⟨(some 16), (.iaa 2 4 (.s 15) (.s 13)), none, [3, 1]⟩,
    ⟨(some 17), (.lda 4 none (.s 16)), none, [4]⟩,
    ⟨(some 7), (.new (.vals [.nils, (.int .i64 0), (.int .i64 0), (.int .i64 0)])), none, []⟩,
    ⟨none, (.stc 4 (.s 7) (.s 17)), none, [6, 5, 0, 1, 2, 3, 4, 5, 6]⟩] false)
  (.seq (.region [
    ⟨(some 18), (.fad 1 (.s 7)), none, []⟩,
    ⟨(some 19), (.ldc (.s 18)), none, [0]⟩,
    ⟨(some 20), (.fad 2 (.s 7)), none, []⟩,
    ⟨(some 21), (.ldc (.s 20)), none, [2]⟩,
    ⟨(some 22), (.fad 3 (.s 7)), none, []⟩,
    ⟨(some 23), (.ldc (.s 22)), none, [4]⟩,
    ⟨(some 4), (.mv (.s 19)), none, [1, 0, 1]⟩,
    ⟨(some 5), (.mv (.s 21)), none, [3, 6, 0, 1, 2, 3, 6]⟩,
    ⟨(some 6), (.mv (.s 23)), none, [5, 7, 0, 1, 2, 3, 4, 5, 6, 7]⟩] true)
  .ret)))), false, none, none, false⟩

/-- (*euphroe/chans.Chan).Peek -/
def k90 : Fun := ⟨2, 17, [0, 1, 4, 8], [(.tmp 4)],
  (.seq (.region [
    ⟨(some 4), (.mv (.c .nils)), none, []⟩] false)
  (.seq (.seq (.region [
    ⟨(some 5), (.mv (.s 0)), none, []⟩,
    ⟨(some 6), (.mv (.s 1)), none, []⟩,
    ⟨(some 7), (.call (.c (.fn 106 [])) [(.s 5), (.s 6), (.c (.int .i64 0))]), none, [0, 1]⟩,
    ⟨(some 8), (.bin .neq (.s 7) (.c (.int .i64 0))), none, [2]⟩] false)
  (.cond (.s 8)
   (.seq (.region [
     ⟨(some 4), (.mv (.c .nils)), none, []⟩] false)
   (.pre ⟨0, [(4, (Sh.sl (Sh.int .u8)))], true, [], []⟩ .ret))
   .skip))
  (.seq (.region [
    ⟨(some 9), (.mv (.s 0)), none, []⟩,
    ⟨(some 10), (.mv (.s 1)), none, []⟩,
    ⟨(some 11), (.nilc (.s 9)), none, [0]⟩,
    ⟨(some 12), (.fad 33 (.s 11)), none, [2]⟩,
    ⟨(some 13), (.iaa 2 4 (.s 12) (.s 10)), none, [3, 1]⟩,
    ⟨(some 14), (.fad 0 (.s 13)), none, [4]⟩,
    ⟨(some 15), (.ldc (.s 14)), none, [5]⟩,
    ⟨(some 16), (.call (.c (.fn 108 [])) [(.s 15)]), none, [6]⟩,
    ⟨(some 4), (.mv (.s 16)), none, [7, 7, 0, 1, 2, 3, 4, 5, 6, 7]⟩] false)
  (.pre ⟨0, [(4, (Sh.sl (Sh.int .u8)))], true, [], []⟩ .ret)))), false, none, none, false⟩

/-- (*euphroe/chans.Chan).Len -/
def k91 : Fun := ⟨2, 9, [0, 1, 4], [(.tmp 4)],
  (.seq (.region [
    ⟨(some 4), (.mv (.c (.int .i64 0))), none, []⟩] false)
  (.seq (.region [
    ⟨(some 5), (.mv (.s 0)), none, []⟩,
    ⟨(some 6), (.mv (.s 1)), none, []⟩,
    ⟨(some 7), (.call (.c (.fn 90 [])) [(.s 5), (.s 6)]), none, [0, 1]⟩,
    ⟨(some 8), (.len false (.s 7)), none, [2]⟩,
    ⟨(some 4), (.mv (.s 8)), none, [3, 2, 0, 1, 2, 3]⟩] false)
  .ret)), false, none, none, false⟩

/-- euphroe/chans.Relay -/
def k92 : Fun := ⟨5, 74, [0, 1, 2, 3, 4, 10, 11, 12, 13, 14, 15, 24, 56, 66], [(.tmp 10), (.tmp 11)],
  (.seq (.region [
    ⟨(some 10), (.mv (.c (.int .i64 0))), none, []⟩,
    ⟨(some 11), (.mv (.c (.int .i64 0))), none, [0]⟩] false)
  (.seq (.block 0
   (.seq (.region [
     ⟨(some 16), (.mv (.s 0)), none, []⟩,
     ⟨(some 17), (.call (.c (.fn 110 [])) [(.s 16)]), none, [0]⟩,
     ⟨(some 18), (.un .not (.s 17)), none, [1]⟩,
     ⟨(some 19), (.mv (.s 18)), none, [2, 1]⟩,
     ⟨(some 20), (.mv (.s 2)), (some (19, false)), [3]⟩,
     ⟨(some 21), (.call (.c (.fn 110 [])) [(.s 20)]), (some (19, false)), [4, 3, 3]⟩,
     ⟨(some 22), (.un .not (.s 21)), (some (19, false)), [5, 3]⟩,
     ⟨(some 23), (.pick (.s 19) (.c (.bool true)) (.s 22)), none, [3, 6]⟩,
     ⟨(some 15), (.mv (.s 23)), none, [7, 5]⟩] false)
   (.cond (.s 15)
    (.seq (.region [
      ⟨(some 10), (.mv (.c (.int .i64 0))), none, []⟩,
      ⟨(some 11), (.mv (.c (.int .i64 2))), none, [0, 0]⟩] false)
    (.pre ⟨0, [(2, (Sh.st (Sh.pr Sh.bool (Sh.pr (Sh.int .u8) (Sh.pr (Sh.int .u8) (Sh.pr (Sh.int .u8) (Sh.pr (Sh.int .u8) (Sh.pr (Sh.int .u8) (Sh.pr (Sh.int .u8) (Sh.pr (Sh.int .u8) (Sh.pr (Sh.int .u8) (Sh.pr (Sh.int .u8) (Sh.pr (Sh.int .u8) (Sh.pr (Sh.int .u8) (Sh.pr (Sh.int .u8) (Sh.pr (Sh.int .u8) (Sh.pr (Sh.int .u8) (Sh.pr (Sh.int .u8) (Sh.pr (Sh.int .u8) (Sh.pr (Sh.int .u8) (Sh.pr (Sh.int .u8) (Sh.pr (Sh.int .u8) (Sh.pr (Sh.int .u8) (Sh.pr (Sh.int .u8) (Sh.pr (Sh.int .u8) (Sh.pr (Sh.int .u8) (Sh.pr (Sh.int .u8) (Sh.pr (Sh.int .u8) (Sh.pr (Sh.int .u8) (Sh.pr (Sh.int .u8) (Sh.pr (Sh.int .u8) (Sh.pr (Sh.int .u8) (Sh.pr (Sh.int .u8) (Sh.pr (Sh.int .u8) (Sh.pr (Sh.int .u8) (Sh.pr (Sh.sl (Sh.int .u8)) (Sh.pr (Sh.int .i64) (Sh.pr (Sh.int .i64) (Sh.pr (Sh.int .i64) (Sh.pr (Sh.sl (Sh.int .u8)) (Sh.pr (Sh.int .i64) (Sh.pr (Sh.int .i64) (Sh.pr (Sh.int .i64) Sh.bool)))))))))))))))))))))))))))))))))))))))))))], true, [], []⟩ .ret))
    (.seq (.region [
      ⟨(some 25), (.mv (.s 1)), none, []⟩,
      ⟨(some 26), (.call (.c (.fn 111 [])) [(.s 25)]), none, [0]⟩,
      ⟨(some 27), (.un .not (.s 26)), none, [1]⟩,
      ⟨(some 28), (.mv (.s 27)), none, [2, 1]⟩,
      ⟨(some 29), (.mv (.s 3)), (some (28, false)), [3]⟩,
      ⟨(some 30), (.call (.c (.fn 111 [])) [(.s 29)]), (some (28, false)), [4, 3, 3]⟩,
      ⟨(some 31), (.un .not (.s 30)), (some (28, false)), [5, 3]⟩,
      ⟨(some 32), (.pick (.s 28) (.c (.bool true)) (.s 31)), none, [3, 6]⟩,
      ⟨(some 33), (.mv (.s 32)), none, [7, 5]⟩,
      ⟨(some 34), (.mv (.s 4)), (some (33, false)), [8]⟩,
      ⟨(some 35), (.bin .lss (.s 34) (.c (.int .i64 0))), (some (33, false)), [9, 8]⟩,
      ⟨(some 36), (.pick (.s 33) (.c (.bool true)) (.s 35)), none, [8, 10]⟩,
      ⟨(some 37), (.mv (.s 36)), none, [11, 8]⟩,
      ⟨(some 38), (.mv (.s 0)), (some (37, false)), [12]⟩,
      ⟨(some 39), (.mv (.s 2)), (some (37, false)), [12]⟩,
      ⟨(some 40), (.eqn .p false (.s 38) (.s 39)), (some (37, false)), [13, 14, 12]⟩,
      ⟨(some 41), (.mv (.s 40)), (some (37, false)), [15, 12, 12]⟩,
      ⟨(some 42), (.mv (.s 1)), (some (41, true)), [16]⟩,
      ⟨(some 43), (.mv (.s 3)), (some (41, true)), [16]⟩,
      ⟨(some 44), (.bin .eql (.s 42) (.s 43)), (some (41, true)), [17, 18, 16]⟩,
      ⟨(some 45), (.pick (.s 41) (.s 44) (.c (.bool false))), (some (37, false)), [16, 19, 12]⟩,
      ⟨(some 46), (.pick (.s 37) (.c (.bool true)) (.s 45)), none, [12, 20]⟩,
      ⟨(some 24), (.mv (.s 46)), none, [21, 16]⟩] false)
    (.cond (.s 24)
     (.seq (.region [
       ⟨(some 10), (.mv (.c (.int .i64 0))), none, []⟩,
       ⟨(some 11), (.mv (.c (.int .i64 1))), none, [0, 0]⟩] false)
     (.pre ⟨0, [(2, (Sh.st (Sh.pr Sh.bool (Sh.pr (Sh.int .u8) (Sh.pr (Sh.int .u8) (Sh.pr (Sh.int .u8) (Sh.pr (Sh.int .u8) (Sh.pr (Sh.int .u8) (Sh.pr (Sh.int .u8) (Sh.pr (Sh.int .u8) (Sh.pr (Sh.int .u8) (Sh.pr (Sh.int .u8) (Sh.pr (Sh.int .u8) (Sh.pr (Sh.int .u8) (Sh.pr (Sh.int .u8) (Sh.pr (Sh.int .u8) (Sh.pr (Sh.int .u8) (Sh.pr (Sh.int .u8) (Sh.pr (Sh.int .u8) (Sh.pr (Sh.int .u8) (Sh.pr (Sh.int .u8) (Sh.pr (Sh.int .u8) (Sh.pr (Sh.int .u8) (Sh.pr (Sh.int .u8) (Sh.pr (Sh.int .u8) (Sh.pr (Sh.int .u8) (Sh.pr (Sh.int .u8) (Sh.pr (Sh.int .u8) (Sh.pr (Sh.int .u8) (Sh.pr (Sh.int .u8) (Sh.pr (Sh.int .u8) (Sh.pr (Sh.int .u8) (Sh.pr (Sh.int .u8) (Sh.pr (Sh.int .u8) (Sh.pr (Sh.int .u8) (Sh.pr (Sh.sl (Sh.int .u8)) (Sh.pr (Sh.int .i64) (Sh.pr (Sh.int .i64) (Sh.pr (Sh.int .i64) (Sh.pr (Sh.sl (Sh.int .u8)) (Sh.pr (Sh.int .i64) (Sh.pr (Sh.int .i64) (Sh.pr (Sh.int .i64) Sh.bool)))))))))))))))))))))))))))))))))))))))))))], true, [], []⟩ .ret))
     .skip)))))
  (.seq (.seq (.region [
    ⟨(some 47), (.mv (.s 2)), none, []⟩,
    ⟨(some 48), (.mv (.s 3)), none, []⟩,
    ⟨(some 49), (.mv (.s 4)), none, []⟩,
    ⟨(some 50), (.mv (.s 0)), none, []⟩,
    ⟨(some 51), (.mv (.s 1)), none, []⟩,
    ⟨(some 52), (.call (.c (.fn 91 [])) [(.s 50), (.s 51)]), none, [3, 4]⟩,
    ⟨(some 53), (.mnx false [(.s 49), (.s 52)]), none, [2, 5]⟩,
    ⟨(some 54), (.call (.c (.fn 107 [])) [(.s 47), (.s 48), (.s 53)]), none, [0, 1, 6, 5]⟩,
    ⟨(some 12), (.mv (.s 54)), none, [7, 7, 0, 1, 2, 3, 4, 5, 6, 7]⟩] false)
  (.seq (.region [
    ⟨(some 55), (.mv (.s 12)), none, []⟩,
    ⟨(some 56), (.bin .neq (.s 55) (.c (.int .i64 0))), none, [0]⟩] false)
  (.cond (.s 56)
   (.seq (.region [
     ⟨(some 57), (.mv (.s 12)), none, []⟩,
     ⟨(some 10), (.mv (.c (.int .i64 0))), none, []⟩,
     ⟨(some 11), (.mv (.s 57)), none, [0, 1, 0, 1]⟩] false)
   (.pre ⟨0, [(2, (Sh.st (Sh.pr Sh.bool (Sh.pr (Sh.int .u8) (Sh.pr (Sh.int .u8) (Sh.pr (Sh.int .u8) (Sh.pr (Sh.int .u8) (Sh.pr (Sh.int .u8) (Sh.pr (Sh.int .u8) (Sh.pr (Sh.int .u8) (Sh.pr (Sh.int .u8) (Sh.pr (Sh.int .u8) (Sh.pr (Sh.int .u8) (Sh.pr (Sh.int .u8) (Sh.pr (Sh.int .u8) (Sh.pr (Sh.int .u8) (Sh.pr (Sh.int .u8) (Sh.pr (Sh.int .u8) (Sh.pr (Sh.int .u8) (Sh.pr (Sh.int .u8) (Sh.pr (Sh.int .u8) (Sh.pr (Sh.int .u8) (Sh.pr (Sh.int .u8) (Sh.pr (Sh.int .u8) (Sh.pr (Sh.int .u8) (Sh.pr (Sh.int .u8) (Sh.pr (Sh.int .u8) (Sh.pr (Sh.int .u8) (Sh.pr (Sh.int .u8) (Sh.pr (Sh.int .u8) (Sh.pr (Sh.int .u8) (Sh.pr (Sh.int .u8) (Sh.pr (Sh.int .u8) (Sh.pr (Sh.int .u8) (Sh.pr (Sh.int .u8) (Sh.pr (Sh.sl (Sh.int .u8)) (Sh.pr (Sh.int .i64) (Sh.pr (Sh.int .i64) (Sh.pr (Sh.int .i64) (Sh.pr (Sh.sl (Sh.int .u8)) (Sh.pr (Sh.int .i64) (Sh.pr (Sh.int .i64) (Sh.pr (Sh.int .i64) Sh.bool)))))))))))))))))))))))))))))))))))))))))))], true, [], []⟩ .ret))
   .skip)))
  (.seq (.region [
    ⟨(some 59), (.mv (.s 0)), none, []⟩,
    ⟨(some 60), (.mv (.s 1)), none, []⟩,
    ⟨(some 61), (.mv (.s 4)), none, []⟩,
    ⟨(some 62), (.call (.c (.fn 88 [])) [(.s 59), (.s 60), (.s 61)]), none, [0, 1, 2]⟩,
    ⟨(some 58), (.mv (.s 62)), none, [3]⟩,
    ⟨(some 63), (.ext (.s 58) 0), none, [4]⟩,
    ⟨(some 64), (.ext (.s 58) 1), none, [4]⟩,
    ⟨(some 13), (.mv (.s 63)), none, [5, 3, 0, 1, 2, 3, 4, 5]⟩,
    ⟨(some 14), (.mv (.s 64)), none, [6, 7, 0, 1, 2, 3, 4, 5, 6, 7]⟩] false)
  (.seq (.seq (.region [
    ⟨(some 65), (.mv (.s 14)), none, []⟩,
    ⟨(some 66), (.bin .neq (.s 65) (.c (.int .i64 0))), none, [0]⟩] false)
  (.cond (.s 66)
   (.seq (.region [
     ⟨(some 67), (.mv (.s 14)), none, []⟩,
     ⟨(some 10), (.mv (.c (.int .i64 0))), none, []⟩,
     ⟨(some 11), (.mv (.s 67)), none, [0, 1, 0, 1]⟩] false)
   (.pre ⟨0, [(2, (Sh.st (Sh.pr Sh.bool (Sh.pr (Sh.int .u8) (Sh.pr (Sh.int .u8) (Sh.pr (Sh.int .u8) (Sh.pr (Sh.int .u8) (Sh.pr (Sh.int .u8) (Sh.pr (Sh.int .u8) (Sh.pr (Sh.int .u8) (Sh.pr (Sh.int .u8) (Sh.pr (Sh.int .u8) (Sh.pr (Sh.int .u8) (Sh.pr (Sh.int .u8) (Sh.pr (Sh.int .u8) (Sh.pr (Sh.int .u8) (Sh.pr (Sh.int .u8) (Sh.pr (Sh.int .u8) (Sh.pr (Sh.int .u8) (Sh.pr (Sh.int .u8) (Sh.pr (Sh.int .u8) (Sh.pr (Sh.int .u8) (Sh.pr (Sh.int .u8) (Sh.pr (Sh.int .u8) (Sh.pr (Sh.int .u8) (Sh.pr (Sh.int .u8) (Sh.pr (Sh.int .u8) (Sh.pr (Sh.int .u8) (Sh.pr (Sh.int .u8) (Sh.pr (Sh.int .u8) (Sh.pr (Sh.int .u8) (Sh.pr (Sh.int .u8) (Sh.pr (Sh.int .u8) (Sh.pr (Sh.int .u8) (Sh.pr (Sh.int .u8) (Sh.pr (Sh.sl (Sh.int .u8)) (Sh.pr (Sh.int .i64) (Sh.pr (Sh.int .i64) (Sh.pr (Sh.int .i64) (Sh.pr (Sh.sl (Sh.int .u8)) (Sh.pr (Sh.int .i64) (Sh.pr (Sh.int .i64) (Sh.pr (Sh.int .i64) Sh.bool)))))))))))))))))))))))))))))))))))))))))))], true, [], []⟩ .ret))
   .skip))
  (.seq (.region [
    ⟨(some 68), (.mv (.s 13)), none, []⟩,
    ⟨(some 69), (.len false (.s 68)), none, [0]⟩,
    ⟨(some 70), (.mv (.s 2)), none, []⟩,
    ⟨(some 71), (.mv (.s 3)), none, []⟩,
    ⟨(some 72), (.mv (.s 13)), none, []⟩,
    ⟨(some 73), (.call (.c (.fn 86 [])) [(.s 70), (.s 71), (.s 72)]), none, [2, 3, 4]⟩,
    ⟨(some 10), (.mv (.s 69)), none, [1, 5, 0, 1]⟩,
    ⟨(some 11), (.mv (.s 73)), none, [5, 6, 0, 1, 2, 3, 4, 5, 6]⟩] false)
  (.pre ⟨0, [(2, (Sh.st (Sh.pr Sh.bool (Sh.pr (Sh.int .u8) (Sh.pr (Sh.int .u8) (Sh.pr (Sh.int .u8) (Sh.pr (Sh.int .u8) (Sh.pr (Sh.int .u8) (Sh.pr (Sh.int .u8) (Sh.pr (Sh.int .u8) (Sh.pr (Sh.int .u8) (Sh.pr (Sh.int .u8) (Sh.pr (Sh.int .u8) (Sh.pr (Sh.int .u8) (Sh.pr (Sh.int .u8) (Sh.pr (Sh.int .u8) (Sh.pr (Sh.int .u8) (Sh.pr (Sh.int .u8) (Sh.pr (Sh.int .u8) (Sh.pr (Sh.int .u8) (Sh.pr (Sh.int .u8) (Sh.pr (Sh.int .u8) (Sh.pr (Sh.int .u8) (Sh.pr (Sh.int .u8) (Sh.pr (Sh.int .u8) (Sh.pr (Sh.int .u8) (Sh.pr (Sh.int .u8) (Sh.pr (Sh.int .u8) (Sh.pr (Sh.int .u8) (Sh.pr (Sh.int .u8) (Sh.pr (Sh.int .u8) (Sh.pr (Sh.int .u8) (Sh.pr (Sh.int .u8) (Sh.pr (Sh.int .u8) (Sh.pr (Sh.int .u8) (Sh.pr (Sh.sl (Sh.int .u8)) (Sh.pr (Sh.int .i64) (Sh.pr (Sh.int .i64) (Sh.pr (Sh.int .i64) (Sh.pr (Sh.sl (Sh.int .u8)) (Sh.pr (Sh.int .i64) (Sh.pr (Sh.int .i64) (Sh.pr (Sh.int .i64) Sh.bool)))))))))))))))))))))))))))))))))))))))))))], true, [], []⟩ .ret))))))), false, none, none, false⟩

/-- euphroe/euphroeref38.Put -/
def k93 : Fun := ⟨3, 50, [0, 1, 2, 3, 6, 7, 10, 13, 24], [(.cell 6 9 true none), (.tmp 7)],
  (.seq (.region [
    ⟨(some 3), (.box (.s 0)), none, []⟩,
    ⟨(some 6), (.new (.vals [.nils, (.int .i64 0), (.int .i64 0), (.int .i64 0), .nils, (.int .i64 0), (.int .i64 0), (.int .i64 0), (.bool false)])), none, []⟩,
    ⟨(some 7), (.mv (.c (.int .i64 0))), none, []⟩] false)
  (.seq (.seq (.region [
    ⟨(some 8), (.mv (.s 1)), none, []⟩,
    ⟨(some 9), (.call (.c (.fn 112 [])) [(.s 8)]), none, [0]⟩,
    ⟨(some 10), (.un .not (.s 9)), none, [1]⟩] false)
  (.cond (.s 10)
   (.seq (.region [
     ⟨(some 11), (.lda 9 none (.s 3)), none, []⟩,
     ⟨none, (.stc 9 (.s 6) (.s 11)), none, [0, 0]⟩,
     ⟨(some 7), (.mv (.c (.int .i64 1))), none, [1, 0, 1]⟩] false)
   .ret)
   .skip))
  (.seq (.seq (.region [
    ⟨(some 12), (.fad 8 (.s 3)), none, []⟩,
    ⟨(some 13), (.ldc (.s 12)), none, [0]⟩] false)
  (.cond (.s 13)
   (.seq (.region [
     ⟨(some 14), (.lda 9 none (.s 3)), none, []⟩,
     ⟨none, (.stc 9 (.s 6) (.s 14)), none, [0, 0]⟩,
     ⟨(some 7), (.mv (.c (.int .i64 11))), none, [1, 0, 1]⟩] false)
   .ret)
   .skip))
  (.seq (.seq (.region [
    ⟨(some 15), (.mv (.s 1)), none, []⟩,
    ⟨(some 16), (.fad 0 (.s 3)), none, []⟩,
    ⟨(some 17), (.iaa 2 4 (.s 16) (.s 15)), none, [1, 0]⟩,
    ⟨(some 18), (.fad 0 (.s 17)), none, [2]⟩,
    ⟨(some 19), (.ldc (.s 18)), none, [3]⟩,
    ⟨(some 20), (.len false (.s 19)), none, [4]⟩,
    ⟨(some 21), (.mv (.s 2)), none, []⟩,
    ⟨(some 22), (.len false (.s 21)), none, [6]⟩,
    ⟨(some 23), (.bin .add (.s 20) (.s 22)), none, [5, 7]⟩,
    ⟨(some 24), (.bin .gtr (.s 23) (.c (.int .i64 65536))), none, [8]⟩] false)
  (.cond (.s 24)
   (.seq (.region [
     ⟨(some 25), (.lda 9 none (.s 3)), none, []⟩,
     ⟨none, (.stc 9 (.s 6) (.s 25)), none, [0, 0]⟩,
     ⟨(some 7), (.mv (.c (.int .i64 12))), none, [1, 0, 1]⟩] false)
   .ret)
   .skip))
  (.seq (.region [
    ⟨(some 26), (.mv (.s 1)), none, []⟩,
    ⟨(some 27), (.mv (.s 1)), none, []⟩,
    ⟨(some 28), (.fad 0 (.s 3)), none, []⟩,
    ⟨(some 29), (.iaa 2 4 (.s 28) (.s 27)), none, [2, 1]⟩,
    ⟨(some 30), (.fad 0 (.s 29)), none, [3]⟩,
    ⟨(some 31), (.ldc (.s 30)), none, [4]⟩,
    ⟨(some 32), (.app 1 1 (.c .nils) (.s 31)), none, [5]⟩,
    ⟨(some 33), (.mv (.s 2)), none, []⟩,
    ⟨(some 34), (.app 1 1 (.s 32) (.s 33)), none, [6, 7, 6]⟩,
    ⟨(some 35), (.fad 0 (.s 3)), none, []⟩,
    ⟨(some 36), (.iaa 2 4 (.s 35) (.s 26)), none, [9, 0, 0, 1, 2, 3, 4, 5, 6, 7, 8]⟩,
    ⟨(some 37), (.fad 0 (.s 36)), none, [10, 0, 1, 2, 3, 4, 5, 6, 7, 8]⟩,
    ⟨none, (.stc 1 (.s 37) (.s 34)), none, [11, 8, 8, 0, 1, 2, 3, 4, 5, 6, 7, 8]⟩] false)
  (.seq (.region [
    ⟨(some 38), (.mv (.s 1)), none, []⟩,
    ⟨(some 39), (.fad 0 (.s 3)), none, []⟩,
    ⟨(some 40), (.iaa 2 4 (.s 39) (.s 38)), none, [1, 0]⟩,
    ⟨(some 41), (.fad 1 (.s 40)), none, [2]⟩,
    ⟨(some 42), (.ldc (.s 41)), none, [3]⟩,
    ⟨(some 43), (.mv (.s 2)), none, []⟩,
    ⟨(some 44), (.len false (.s 43)), none, [5]⟩,
    ⟨(some 45), (.bin .add (.s 42) (.s 44)), none, [4, 6]⟩,
    ⟨(some 46), (.fad 0 (.s 3)), none, []⟩,
    ⟨(some 47), (.iaa 2 4 (.s 46) (.s 38)), none, [8, 0, 0, 1, 2, 3, 4, 5, 6, 7]⟩,
    ⟨(some 48), (.fad 1 (.s 47)), none, [9, 0, 1, 2, 3, 4, 5, 6, 7]⟩,
    ⟨none, (.stc 1 (.s 48) (.s 45)), none, [10, 7, 0, 1, 2, 3, 4, 5, 6, 7]⟩] false)
  (.seq (.region [
    ⟨(some 49), (.lda 9 none (.s 3)), none, []⟩,
    ⟨none, (.stc 9 (.s 6) (.s 49)), none, [0, 0]⟩,
    ⟨(some 7), (.mv (.c (.int .i64 0))), none, [1, 0, 1]⟩] false)
  .ret))))))), false, (some [(Sh.st (Sh.pr (Sh.sl (Sh.int .u8)) (Sh.pr (Sh.int .i64) (Sh.pr (Sh.int .i64) (Sh.pr (Sh.int .i64) (Sh.pr (Sh.sl (Sh.int .u8)) (Sh.pr (Sh.int .i64) (Sh.pr (Sh.int .i64) (Sh.pr (Sh.int .i64) Sh.bool))))))))), (Sh.int .i64), (Sh.sl (Sh.int .u8))]), (some (Sh.tu (Sh.pr (Sh.st (Sh.pr (Sh.sl (Sh.int .u8)) (Sh.pr (Sh.int .i64) (Sh.pr (Sh.int .i64) (Sh.pr (Sh.int .i64) (Sh.pr (Sh.sl (Sh.int .u8)) (Sh.pr (Sh.int .i64) (Sh.pr (Sh.int .i64) (Sh.pr (Sh.int .i64) Sh.bool))))))))) (Sh.int .i64)))), false⟩

/-- euphroe/euphroeref38.Take -/
def k94 : Fun := ⟨3, 38, [0, 1, 2, 3, 6, 7, 8, 9, 16], [(.cell 6 9 true none), (.tmp 7), (.tmp 8)],
  (.seq (.region [
    ⟨(some 3), (.box (.s 0)), none, []⟩,
    ⟨(some 6), (.new (.vals [.nils, (.int .i64 0), (.int .i64 0), (.int .i64 0), .nils, (.int .i64 0), (.int .i64 0), (.int .i64 0), (.bool false)])), none, []⟩,
    ⟨(some 7), (.mv (.c .nils)), none, []⟩,
    ⟨(some 8), (.mv (.c (.int .i64 0))), none, [2]⟩] false)
  (.seq (.seq (.region [
    ⟨(some 10), (.mv (.s 1)), none, []⟩,
    ⟨(some 11), (.call (.c (.fn 112 [])) [(.s 10)]), none, [0]⟩,
    ⟨(some 12), (.un .not (.s 11)), none, [1]⟩,
    ⟨(some 13), (.mv (.s 12)), none, [2, 1]⟩,
    ⟨(some 14), (.mv (.s 2)), (some (13, false)), [3]⟩,
    ⟨(some 15), (.bin .lss (.s 14) (.c (.int .i64 0))), (some (13, false)), [4, 3]⟩,
    ⟨(some 16), (.pick (.s 13) (.c (.bool true)) (.s 15)), none, [3, 5]⟩] false)
  (.cond (.s 16)
   (.seq (.region [
     ⟨(some 17), (.lda 9 none (.s 3)), none, []⟩,
     ⟨none, (.stc 9 (.s 6) (.s 17)), none, [0, 0]⟩,
     ⟨(some 7), (.mv (.c .nils)), none, [1, 0, 1]⟩,
     ⟨(some 8), (.mv (.c (.int .i64 1))), none, [2, 0, 1, 2]⟩] false)
   .ret)
   .skip))
  (.seq (.region [
    ⟨(some 19), (.lda 9 none (.s 3)), none, []⟩,
    ⟨(some 20), (.mv (.s 1)), none, []⟩,
    ⟨(some 21), (.mv (.s 2)), none, []⟩,
    ⟨(some 22), (.call (.c (.fn 113 [])) [(.s 19), (.s 20), (.s 21)]), none, [0, 1, 2]⟩,
    ⟨(some 18), (.mv (.s 22)), none, [3]⟩,
    ⟨(some 23), (.ext (.s 18) 0), none, [4]⟩,
    ⟨(some 24), (.ext (.s 18) 1), none, [4]⟩,
    ⟨none, (.stc 9 (.s 3) (.s 23)), none, [5, 3, 0, 1, 2, 3, 4, 5]⟩,
    ⟨(some 9), (.mv (.s 24)), none, [6, 7, 0, 1, 2, 3, 4, 5, 6, 7]⟩] false)
  (.seq (.region [
    ⟨(some 25), (.mv (.s 1)), none, []⟩,
    ⟨(some 26), (.fad 0 (.s 3)), none, []⟩,
    ⟨(some 27), (.iaa 2 4 (.s 26) (.s 25)), none, [1, 0]⟩,
    ⟨(some 28), (.fad 2 (.s 27)), none, [2]⟩,
    ⟨(some 29), (.ldc (.s 28)), none, [3]⟩,
    ⟨(some 30), (.mv (.s 9)), none, []⟩,
    ⟨(some 31), (.len false (.s 30)), none, [5]⟩,
    ⟨(some 32), (.bin .add (.s 29) (.s 31)), none, [4, 6]⟩,
    ⟨(some 33), (.fad 0 (.s 3)), none, []⟩,
    ⟨(some 34), (.iaa 2 4 (.s 33) (.s 25)), none, [8, 0, 0, 1, 2, 3, 4, 5, 6, 7]⟩,
    ⟨(some 35), (.fad 2 (.s 34)), none, [9, 0, 1, 2, 3, 4, 5, 6, 7]⟩,
    ⟨none, (.stc 1 (.s 35) (.s 32)), none, [10, 7, 0, 1, 2, 3, 4, 5, 6, 7]⟩] false)
  (.seq (.region [
    ⟨(some 36), (.lda 9 none (.s 3)), none, []⟩,
    ⟨(some 37), (.mv (.s 9)), none, []⟩,
    ⟨none, (.stc 9 (.s 6) (.s 36)), none, [0, 0]⟩,
    ⟨(some 7), (.mv (.s 37)), none, [1, 2, 0, 1, 2]⟩,
    ⟨(some 8), (.mv (.c (.int .i64 0))), none, [3, 0, 1, 2, 3]⟩] false)
  .ret))))), false, (some [(Sh.st (Sh.pr (Sh.sl (Sh.int .u8)) (Sh.pr (Sh.int .i64) (Sh.pr (Sh.int .i64) (Sh.pr (Sh.int .i64) (Sh.pr (Sh.sl (Sh.int .u8)) (Sh.pr (Sh.int .i64) (Sh.pr (Sh.int .i64) (Sh.pr (Sh.int .i64) Sh.bool))))))))), (Sh.int .i64), (Sh.int .i64)]), (some (Sh.tu (Sh.pr (Sh.st (Sh.pr (Sh.sl (Sh.int .u8)) (Sh.pr (Sh.int .i64) (Sh.pr (Sh.int .i64) (Sh.pr (Sh.int .i64) (Sh.pr (Sh.sl (Sh.int .u8)) (Sh.pr (Sh.int .i64) (Sh.pr (Sh.int .i64) (Sh.pr (Sh.int .i64) Sh.bool))))))))) (Sh.pr (Sh.sl (Sh.int .u8)) (Sh.int .i64))))), false⟩

/-- euphroe/euphroeref38.Lose -/
def k95 : Fun := ⟨3, 39, [0, 1, 2, 3, 6, 7, 8, 9, 16], [(.cell 6 9 true none), (.tmp 7), (.tmp 8)],
  (.seq (.region [
    ⟨(some 3), (.box (.s 0)), none, []⟩,
    ⟨(some 6), (.new (.vals [.nils, (.int .i64 0), (.int .i64 0), (.int .i64 0), .nils, (.int .i64 0), (.int .i64 0), (.int .i64 0), (.bool false)])), none, []⟩,
    ⟨(some 7), (.mv (.c (.int .i64 0))), none, []⟩,
    ⟨(some 8), (.mv (.c (.int .i64 0))), none, [2]⟩] false)
  (.seq (.seq (.region [
    ⟨(some 10), (.mv (.s 1)), none, []⟩,
    ⟨(some 11), (.call (.c (.fn 112 [])) [(.s 10)]), none, [0]⟩,
    ⟨(some 12), (.un .not (.s 11)), none, [1]⟩,
    ⟨(some 13), (.mv (.s 12)), none, [2, 1]⟩,
    ⟨(some 14), (.mv (.s 2)), (some (13, false)), [3]⟩,
    ⟨(some 15), (.bin .lss (.s 14) (.c (.int .i64 0))), (some (13, false)), [4, 3]⟩,
    ⟨(some 16), (.pick (.s 13) (.c (.bool true)) (.s 15)), none, [3, 5]⟩] false)
  (.cond (.s 16)
   (.seq (.region [
     ⟨(some 17), (.lda 9 none (.s 3)), none, []⟩,
     ⟨none, (.stc 9 (.s 6) (.s 17)), none, [0, 0]⟩,
     ⟨(some 7), (.mv (.c (.int .i64 0))), none, [1, 0, 1]⟩,
     ⟨(some 8), (.mv (.c (.int .i64 1))), none, [2, 0, 1, 2]⟩] false)
   .ret)
   .skip))
  (.seq (.region [
    ⟨(some 19), (.lda 9 none (.s 3)), none, []⟩,
    ⟨(some 20), (.mv (.s 1)), none, []⟩,
    ⟨(some 21), (.mv (.s 2)), none, []⟩,
    ⟨(some 22), (.call (.c (.fn 113 [])) [(.s 19), (.s 20), (.s 21)]), none, [0, 1, 2]⟩,
    ⟨(some 18), (.mv (.s 22)), none, [3]⟩,
    ⟨(some 23), (.ext (.s 18) 0), none, [4]⟩,
    ⟨(some 24), (.ext (.s 18) 1), none, [4]⟩,
    ⟨none, (.stc 9 (.s 3) (.s 23)), none, [5, 3, 0, 1, 2, 3, 4, 5]⟩,
    ⟨(some 9), (.mv (.s 24)), none, [6, 7, 0, 1, 2, 3, 4, 5, 6, 7]⟩] false)
  (.seq (.region [
    ⟨(some 25), (.mv (.s 1)), none, []⟩,
    ⟨(some 26), (.fad 0 (.s 3)), none, []⟩,
    ⟨(some 27), (.iaa 2 4 (.s 26) (.s 25)), none, [1, 0]⟩,
    ⟨(some 28), (.fad 3 (.s 27)), none, [2]⟩,
    ⟨(some 29), (.ldc (.s 28)), none, [3]⟩,
    ⟨(some 30), (.mv (.s 9)), none, []⟩,
    ⟨(some 31), (.len false (.s 30)), none, [5]⟩,
    ⟨(some 32), (.bin .add (.s 29) (.s 31)), none, [4, 6]⟩,
    ⟨(some 33), (.fad 0 (.s 3)), none, []⟩,
    ⟨(some 34), (.iaa 2 4 (.s 33) (.s 25)), none, [8, 0, 0, 1, 2, 3, 4, 5, 6, 7]⟩,
    ⟨(some 35), (.fad 3 (.s 34)), none, [9, 0, 1, 2, 3, 4, 5, 6, 7]⟩,
    ⟨none, (.stc 1 (.s 35) (.s 32)), none, [10, 7, 0, 1, 2, 3, 4, 5, 6, 7]⟩] false)
  (.seq (.region [
    ⟨(some 36), (.lda 9 none (.s 3)), none, []⟩,
    ⟨(some 37), (.mv (.s 9)), none, []⟩,
    ⟨(some 38), (.len false (.s 37)), none, [1]⟩,
    ⟨none, (.stc 9 (.s 6) (.s 36)), none, [0, 0]⟩,
    ⟨(some 7), (.mv (.s 38)), none, [2, 3, 0, 1, 2, 3]⟩,
    ⟨(some 8), (.mv (.c (.int .i64 0))), none, [4, 0, 1, 2, 3, 4]⟩] false)
  .ret))))), false, (some [(Sh.st (Sh.pr (Sh.sl (Sh.int .u8)) (Sh.pr (Sh.int .i64) (Sh.pr (Sh.int .i64) (Sh.pr (Sh.int .i64) (Sh.pr (Sh.sl (Sh.int .u8)) (Sh.pr (Sh.int .i64) (Sh.pr (Sh.int .i64) (Sh.pr (Sh.int .i64) Sh.bool))))))))), (Sh.int .i64), (Sh.int .i64)]), (some (Sh.tu (Sh.pr (Sh.st (Sh.pr (Sh.sl (Sh.int .u8)) (Sh.pr (Sh.int .i64) (Sh.pr (Sh.int .i64) (Sh.pr (Sh.int .i64) (Sh.pr (Sh.sl (Sh.int .u8)) (Sh.pr (Sh.int .i64) (Sh.pr (Sh.int .i64) (Sh.pr (Sh.int .i64) Sh.bool))))))))) (Sh.pr (Sh.int .i64) (Sh.int .i64))))), false⟩

/-- euphroe/euphroeref38.Relay -/
def k96 : Fun := ⟨6, 109, [0, 1, 2, 3, 4, 5, 12, 13, 14, 15, 16, 17, 18, 20, 43, 49, 73], [(.tmp 12), (.tmp 13), (.tmp 14)],
  (.seq (.region [
    ⟨(some 12), (.mv (.c .nils)), none, []⟩,
    ⟨(some 13), (.mv (.c (.int .i64 0))), none, [0]⟩,
    ⟨(some 14), (.mv (.c (.int .i64 0))), none, [1]⟩] false)
  (.seq (.seq (.region [
    ⟨(some 22), (.mv (.s 2)), none, []⟩,
    ⟨(some 23), (.call (.c (.fn 112 [])) [(.s 22)]), none, [0]⟩,
    ⟨(some 24), (.un .not (.s 23)), none, [1]⟩,
    ⟨(some 25), (.mv (.s 24)), none, [2, 1]⟩,
    ⟨(some 26), (.mv (.s 4)), (some (25, false)), [3]⟩,
    ⟨(some 27), (.call (.c (.fn 112 [])) [(.s 26)]), (some (25, false)), [4, 3, 3]⟩,
    ⟨(some 28), (.un .not (.s 27)), (some (25, false)), [5, 3]⟩,
    ⟨(some 29), (.pick (.s 25) (.c (.bool true)) (.s 28)), none, [3, 6]⟩,
    ⟨(some 30), (.mv (.s 29)), none, [7, 5]⟩,
    ⟨(some 31), (.mv (.s 5)), (some (30, false)), [8]⟩,
    ⟨(some 32), (.bin .lss (.s 31) (.c (.int .i64 0))), (some (30, false)), [9, 8]⟩,
    ⟨(some 33), (.pick (.s 30) (.c (.bool true)) (.s 32)), none, [8, 10]⟩,
    ⟨(some 34), (.mv (.s 33)), none, [11, 8]⟩,
    ⟨(some 35), (.mv (.s 1)), (some (34, false)), [12]⟩,
    ⟨(some 36), (.mv (.s 3)), (some (34, false)), [12]⟩,
    ⟨(some 37), (.bin .eql (.s 35) (.s 36)), (some (34, false)), [13, 14, 12]⟩,
    ⟨(some 38), (.mv (.s 37)), (some (34, false)), [15, 12, 12]⟩,
    ⟨(some 39), (.mv (.s 2)), (some (38, true)), [16]⟩,
    ⟨(some 40), (.mv (.s 4)), (some (38, true)), [16]⟩,
    ⟨(some 41), (.bin .eql (.s 39) (.s 40)), (some (38, true)), [17, 18, 16]⟩,
    ⟨(some 42), (.pick (.s 38) (.s 41) (.c (.bool false))), (some (34, false)), [16, 19, 12]⟩,
    ⟨(some 43), (.pick (.s 34) (.c (.bool true)) (.s 42)), none, [12, 20]⟩] false)
  (.cond (.s 43)
   (.seq (.region [
     ⟨(some 44), (.mv (.s 0)), none, []⟩,
     ⟨(some 12), (.mv (.s 44)), none, [0, 0]⟩,
     ⟨(some 13), (.mv (.c (.int .i64 0))), none, [1, 0, 1]⟩,
     ⟨(some 14), (.mv (.c (.int .i64 1))), none, [2, 0, 1, 2]⟩] false)
   .ret)
   .skip))
  (.seq (.seq (.region [
    ⟨(some 45), (.mv (.s 0)), none, []⟩,
    ⟨(some 46), (.mv (.s 3)), none, []⟩,
    ⟨(some 47), (.iad 9 (.s 45) (.s 46)), none, [0, 1]⟩,
    ⟨(some 48), (.fad 8 (.s 47)), none, [2]⟩,
    ⟨(some 49), (.ldc (.s 48)), none, [3]⟩] false)
  (.cond (.s 49)
   (.seq (.region [
     ⟨(some 50), (.mv (.s 0)), none, []⟩,
     ⟨(some 12), (.mv (.s 50)), none, [0, 0]⟩,
     ⟨(some 13), (.mv (.c (.int .i64 0))), none, [1, 0, 1]⟩,
     ⟨(some 14), (.mv (.c (.int .i64 11))), none, [2, 0, 1, 2]⟩] false)
   .ret)
   .skip))
  (.seq (.region [
    ⟨(some 51), (.mv (.s 5)), none, []⟩,
    ⟨(some 52), (.mv (.s 0)), none, []⟩,
    ⟨(some 53), (.mv (.s 1)), none, []⟩,
    ⟨(some 54), (.mv (.s 2)), none, []⟩,
    ⟨(some 55), (.iad 9 (.s 52) (.s 53)), none, [1, 2]⟩,
    ⟨(some 56), (.fad 0 (.s 55)), none, [4]⟩,
    ⟨(some 57), (.iaa 2 4 (.s 56) (.s 54)), none, [5, 3]⟩,
    ⟨(some 58), (.fad 0 (.s 57)), none, [6]⟩,
    ⟨(some 59), (.ldc (.s 58)), none, [7]⟩,
    ⟨(some 60), (.len false (.s 59)), none, [8]⟩,
    ⟨(some 61), (.mnx false [(.s 51), (.s 60)]), none, [0, 9]⟩,
    ⟨(some 15), (.mv (.s 61)), none, [10, 0, 1, 2, 3, 4, 5, 6, 7, 8, 9, 10]⟩] false)
  (.seq (.seq (.region [
    ⟨(some 62), (.mv (.s 0)), none, []⟩,
    ⟨(some 63), (.mv (.s 3)), none, []⟩,
    ⟨(some 64), (.mv (.s 4)), none, []⟩,
    ⟨(some 65), (.iad 9 (.s 62) (.s 63)), none, [0, 1]⟩,
    ⟨(some 66), (.fad 0 (.s 65)), none, [3]⟩,
    ⟨(some 67), (.iaa 2 4 (.s 66) (.s 64)), none, [4, 2]⟩,
    ⟨(some 68), (.fad 0 (.s 67)), none, [5]⟩,
    ⟨(some 69), (.ldc (.s 68)), none, [6]⟩,
    ⟨(some 70), (.len false (.s 69)), none, [7]⟩,
    ⟨(some 71), (.mv (.s 15)), none, []⟩,
    ⟨(some 72), (.bin .add (.s 70) (.s 71)), none, [8, 9]⟩,
    ⟨(some 73), (.bin .gtr (.s 72) (.c (.int .i64 65536))), none, [10]⟩] false)
  (.cond (.s 73)
   (.seq (.region [
     ⟨(some 74), (.mv (.s 0)), none, []⟩,
     ⟨(some 12), (.mv (.s 74)), none, [0, 0]⟩,
     ⟨(some 13), (.mv (.c (.int .i64 0))), none, [1, 0, 1]⟩,
     ⟨(some 14), (.mv (.c (.int .i64 12))), none, [2, 0, 1, 2]⟩] false)
   .ret)
   .skip))
  (.seq (.region [
    ⟨(some 75), (.mv (.s 0)), none, []⟩,
    ⟨(some 76), (.app 9 104 (.c .nils) (.s 75)), none, [0]⟩,
    ⟨(some 16), (.mv (.s 76)), none, [1, 1, 0, 1]⟩] false)
  (.seq (.region [
    ⟨(some 78), (.mv (.s 16)), none, []⟩,
    ⟨(some 79), (.mv (.s 1)), none, []⟩,
    ⟨(some 80), (.iad 9 (.s 78) (.s 79)), none, [0, 1]⟩,
    ⟨(some 81), (.lda 9 none (.s 80)), none, [2]⟩,
    ⟨(some 82), (.mv (.s 2)), none, []⟩,
    ⟨(some 83), (.mv (.s 5)), none, []⟩,
    ⟨(some 84), (.call (.c (.fn 94 [])) [(.s 81), (.s 82), (.s 83)]), none, [3, 4, 5]⟩,
    ⟨(some 77), (.mv (.s 84)), none, [6]⟩,
    ⟨(some 85), (.ext (.s 77) 0), none, [7]⟩,
    ⟨(some 86), (.ext (.s 77) 1), none, [7]⟩,
    ⟨(some 87), (.ext (.s 77) 2), none, [7]⟩,
    ⟨(some 17), (.new (.vals [.nils, (.int .i64 0), (.int .i64 0), (.int .i64 0), .nils, (.int .i64 0), (.int .i64 0), (.int .i64 0), (.bool false)])), none, []⟩,
    ⟨none, (.stc 9 (.s 17) (.s 85)), none, [11, 8, 6, 0, 1, 2, 3, 4, 5, 6, 7, 8, 11]⟩,
    ⟨(some 18), (.mv (.s 86)), none, [9, 12, 0, 1, 2, 3, 4, 5, 6, 7, 8, 9, 11, 12]⟩,
    ⟨(some 19), (.mv (.s 87)), none, [10, 13, 0, 1, 2, 3, 4, 5, 6, 7, 8, 9, 10, 11, 12, 13]⟩] false)
  (.seq (.region [
    ⟨(some 88), (.mv (.s 16)), none, []⟩,
    ⟨(some 89), (.mv (.s 1)), none, []⟩,
    ⟨(some 90), (.lda 9 none (.s 17)), none, []⟩,
    ⟨(some 91), (.iad 9 (.s 88) (.s 89)), none, [0, 1, 0, 1, 2]⟩,
    ⟨none, (.stc 9 (.s 91) (.s 90)), none, [3, 2, 0, 1, 2]⟩] false)
  (.seq (.region [
    ⟨(some 93), (.mv (.s 16)), none, []⟩,
    ⟨(some 94), (.mv (.s 3)), none, []⟩,
    ⟨(some 95), (.iad 9 (.s 93) (.s 94)), none, [0, 1]⟩,
    ⟨(some 96), (.lda 9 none (.s 95)), none, [2]⟩,
    ⟨(some 97), (.mv (.s 4)), none, []⟩,
    ⟨(some 98), (.mv (.s 18)), none, []⟩,
    ⟨(some 99), (.call (.c (.fn 93 [])) [(.s 96), (.s 97), (.s 98)]), none, [3, 4, 5]⟩,
    ⟨(some 92), (.mv (.s 99)), none, [6]⟩,
    ⟨(some 100), (.ext (.s 92) 0), none, [7]⟩,
    ⟨(some 101), (.ext (.s 92) 1), none, [7]⟩,
    ⟨(some 20), (.new (.vals [.nils, (.int .i64 0), (.int .i64 0), (.int .i64 0), .nils, (.int .i64 0), (.int .i64 0), (.int .i64 0), (.bool false)])), none, []⟩,
    ⟨none, (.stc 9 (.s 20) (.s 100)), none, [10, 8, 6, 0, 1, 2, 3, 4, 5, 6, 7, 8, 10]⟩,
    ⟨(some 21), (.mv (.s 101)), none, [9, 11, 0, 1, 2, 3, 4, 5, 6, 7, 8, 9, 10, 11]⟩] false)
  (.seq (.region [
    ⟨(some 102), (.mv (.s 16)), none, []⟩,
    ⟨(some 103), (.mv (.s 3)), none, []⟩,
    ⟨(some 104), (.lda 9 none (.s 20)), none, []⟩,
    ⟨(some 105), (.iad 9 (.s 102) (.s 103)), none, [0, 1, 0, 1, 2]⟩,
    ⟨none, (.stc 9 (.s 105) (.s 104)), none, [3, 2, 0, 1, 2]⟩] false)
  (.seq (.region [
    ⟨(some 106), (.mv (.s 16)), none, []⟩,
    ⟨(some 107), (.mv (.s 18)), none, []⟩,
    ⟨(some 108), (.len false (.s 107)), none, [1]⟩,
    ⟨(some 12), (.mv (.s 106)), none, [0, 0]⟩,
    ⟨(some 13), (.mv (.s 108)), none, [2, 3, 0, 1, 2, 3]⟩,
    ⟨(some 14), (.mv (.c (.int .i64 0))), none, [4, 0, 1, 2, 3, 4]⟩] false)
  .ret))))))))))), true, none, none, false⟩

/-- (*euphroe/chans.Chan).Shut -/
def k97 : Fun := ⟨1, 7, [0, 3], [],
  (.seq (.region [
    ⟨(some 2), (.mv (.s 0)), none, []⟩,
    ⟨(some 3), (.call (.c (.fn 110 [])) [(.s 2)]), none, [0]⟩] false)
  (.cond (.s 3)
   (.region [
     ⟨(some 4), (.mv (.s 0)), none, []⟩,
     ⟨(some 5), (.nilc (.s 4)), none, [0, 0]⟩,
     ⟨(some 6), (.fad 41 (.s 5)), none, [1, 0]⟩,
     ⟨none, (.stc 1 (.s 6) (.c (.bool true))), none, [2, 0]⟩] false)
   .skip)), false, none, none, false⟩

/-- (*euphroe/chans.Chan).Open -/
def k98 : Fun := ⟨1, 12, [0, 2], [(.tmp 2)],
  (.seq (.region [
    ⟨(some 2), (.mv (.c (.bool false))), none, []⟩] false)
  (.seq (.region [
    ⟨(some 3), (.mv (.s 0)), none, []⟩,
    ⟨(some 4), (.call (.c (.fn 110 [])) [(.s 3)]), none, [0]⟩,
    ⟨(some 5), (.mv (.s 4)), none, [1, 1]⟩,
    ⟨(some 6), (.mv (.s 0)), (some (5, true)), [2]⟩,
    ⟨(some 7), (.nilc (.s 6)), (some (5, true)), [3, 2]⟩,
    ⟨(some 8), (.fad 41 (.s 7)), (some (5, true)), [4, 2]⟩,
    ⟨(some 9), (.ldc (.s 8)), (some (5, true)), [5, 2]⟩,
    ⟨(some 10), (.un .not (.s 9)), (some (5, true)), [6, 2]⟩,
    ⟨(some 11), (.pick (.s 5) (.s 10) (.c (.bool false))), none, [2, 7]⟩,
    ⟨(some 2), (.mv (.s 11)), none, [8, 2, 0, 1, 2, 3, 4, 5, 6, 7, 8]⟩] false)
  .ret)), false, none, none, true⟩

/-- (*euphroe/chans.Chan).Hash -/
def k99 : Fun := ⟨1, 11, [0, 2, 5], [(.cell 2 32 true (some .u8))],
  (.seq (.region [
    ⟨(some 2), (.new (.ints .u8 [0, 0, 0, 0, 0, 0, 0, 0, 0, 0, 0, 0, 0, 0, 0, 0, 0, 0, 0, 0, 0, 0, 0, 0, 0, 0, 0, 0, 0, 0, 0, 0])), none, []⟩] false)
  (.seq (.seq (.region [
    ⟨(some 3), (.mv (.s 0)), none, []⟩,
    ⟨(some 4), (.call (.c (.fn 110 [])) [(.s 3)]), none, [0]⟩,
    ⟨(some 5), (.un .not (.s 4)), none, [1]⟩] false)
  (.cond (.s 5)
   (.seq (.region [
     ⟨(some 6), (.build (.ints .u8 [0, 0, 0, 0, 0, 0, 0, 0, 0, 0, 0, 0, 0, 0, 0, 0, 0, 0, 0, 0, 0, 0, 0, 0, 0, 0, 0, 0, 0, 0, 0, 0]) []), none, []⟩,
     ⟨none, (.stc 32 (.s 2) (.s 6)), none, [0, 0]⟩] false)
   .ret)
   .skip))
  (.seq (.region [
    ⟨(some 7), (.mv (.s 0)), none, []⟩,
    ⟨(some 8), (.nilc (.s 7)), none, [0]⟩,
    ⟨(some 9), (.fad 1 (.s 8)), none, [1]⟩,
    ⟨(some 10), (.lda 32 (some .u8) (.s 9)), none, [2]⟩,
    ⟨none, (.stc 32 (.s 2) (.s 10)), none, [3, 0, 1, 2, 3]⟩] false)
  .ret))), false, none, none, false⟩

/-- (*euphroe/chans.Chan).may -/
def k106 : Fun := ⟨3, 19, [0, 1, 2, 6, 7, 11], [(.tmp 6)],
  (.seq (.region [
    ⟨(some 6), (.mv (.c (.int .i64 0))), none, []⟩] false)
  (.seq (.block 0
   (.seq (.region [
     ⟨(some 8), (.mv (.s 0)), none, []⟩,
     ⟨(some 9), (.call (.c (.fn 110 [])) [(.s 8)]), none, [0]⟩,
     ⟨(some 10), (.un .not (.s 9)), none, [1]⟩,
     ⟨(some 7), (.mv (.s 10)), none, [2, 1]⟩] false)
   (.cond (.s 7)
    (.seq (.region [
      ⟨(some 6), (.mv (.c (.int .i64 2))), none, []⟩] false)
    .ret)
    (.seq (.region [
      ⟨(some 12), (.mv (.s 1)), none, []⟩,
      ⟨(some 13), (.call (.c (.fn 111 [])) [(.s 12)]), none, [0]⟩,
      ⟨(some 14), (.un .not (.s 13)), none, [1]⟩,
      ⟨(some 15), (.mv (.s 14)), none, [2, 1]⟩,
      ⟨(some 16), (.mv (.s 2)), (some (15, false)), [3]⟩,
      ⟨(some 17), (.bin .lss (.s 16) (.c (.int .i64 0))), (some (15, false)), [4, 3]⟩,
      ⟨(some 18), (.pick (.s 15) (.c (.bool true)) (.s 17)), none, [3, 5]⟩,
      ⟨(some 11), (.mv (.s 18)), none, [6, 3]⟩] false)
    (.cond (.s 11)
     (.seq (.region [
       ⟨(some 6), (.mv (.c (.int .i64 1))), none, []⟩] false)
     .ret)
     .skip)))))
  (.seq (.region [
    ⟨(some 6), (.mv (.c (.int .i64 0))), none, []⟩] false)
  .ret))), false, none, none, true⟩

/-- (*euphroe/chans.Chan).holds -/
def k107 : Fun := ⟨3, 24, [0, 1, 2, 6, 7, 12], [(.tmp 6)],
  (.seq (.region [
    ⟨(some 6), (.mv (.c (.int .i64 0))), none, []⟩] false)
  (.seq (.block 0
   (.seq (.region [
     ⟨(some 8), (.mv (.s 0)), none, []⟩,
     ⟨(some 9), (.nilc (.s 8)), none, [0]⟩,
     ⟨(some 10), (.fad 41 (.s 9)), none, [1]⟩,
     ⟨(some 11), (.ldc (.s 10)), none, [2]⟩,
     ⟨(some 7), (.mv (.s 11)), none, [3]⟩] false)
   (.cond (.s 7)
    (.seq (.region [
      ⟨(some 6), (.mv (.c (.int .i64 11))), none, []⟩] false)
    .ret)
    (.seq (.region [
      ⟨(some 13), (.mv (.s 0)), none, []⟩,
      ⟨(some 14), (.mv (.s 1)), none, []⟩,
      ⟨(some 15), (.nilc (.s 13)), none, [0]⟩,
      ⟨(some 16), (.fad 33 (.s 15)), none, [2]⟩,
      ⟨(some 17), (.iaa 2 4 (.s 16) (.s 14)), none, [3, 1]⟩,
      ⟨(some 18), (.fad 0 (.s 17)), none, [4]⟩,
      ⟨(some 19), (.ldc (.s 18)), none, [5]⟩,
      ⟨(some 20), (.len false (.s 19)), none, [6]⟩,
      ⟨(some 21), (.mv (.s 2)), none, []⟩,
      ⟨(some 22), (.bin .add (.s 20) (.s 21)), none, [7, 8]⟩,
      ⟨(some 23), (.bin .gtr (.s 22) (.c (.int .i64 65536))), none, [9]⟩,
      ⟨(some 12), (.mv (.s 23)), none, [10]⟩] false)
    (.cond (.s 12)
     (.seq (.region [
       ⟨(some 6), (.mv (.c (.int .i64 12))), none, []⟩] false)
     .ret)
     .skip)))))
  (.seq (.region [
    ⟨(some 6), (.mv (.c (.int .i64 0))), none, []⟩] false)
  .ret))), false, none, none, true⟩

/-- (*euphroe/chans.way).cut -/
def k109 : Fun := ⟨2, 30, [0, 1, 4, 5], [(.tmp 4)],
  (.seq (.region [
    ⟨(some 4), (.mv (.c .nils)), none, []⟩] false)
  (.seq (.region [
    ⟨(some 6), (.mv (.s 1)), none, []⟩,
    ⟨(some 7), (.mv (.s 0)), none, []⟩,
    ⟨(some 8), (.nilc (.s 7)), none, [1]⟩,
    ⟨(some 9), (.fad 0 (.s 8)), none, [2]⟩,
    ⟨(some 10), (.ldc (.s 9)), none, [3]⟩,
    ⟨(some 11), (.len false (.s 10)), none, [4]⟩,
    ⟨(some 12), (.mnx false [(.s 6), (.s 11)]), none, [0, 5]⟩,
    ⟨(some 1), (.mv (.s 12)), none, [6, 0, 1, 2, 3, 4, 5, 6]⟩] false)
  (.seq (.region [
    ⟨(some 13), (.mv (.s 0)), none, []⟩,
    ⟨(some 14), (.nilc (.s 13)), none, [0]⟩,
    ⟨(some 15), (.fad 0 (.s 14)), none, [1]⟩,
    ⟨(some 16), (.ldc (.s 15)), none, [2]⟩,
    ⟨(some 17), (.mv (.s 1)), none, []⟩,
    ⟨(some 18), (.sls 1 (.s 16) none (some (.s 17)) none), none, [3, 4]⟩,
    ⟨(some 19), (.call (.c (.fn 108 [])) [(.s 18)]), none, [5]⟩,
    ⟨(some 5), (.mv (.s 19)), none, [6, 6, 0, 1, 2, 3, 4, 5, 6]⟩] false)
  (.seq (.region [
    ⟨(some 20), (.mv (.s 0)), none, []⟩,
    ⟨(some 21), (.mv (.s 0)), none, []⟩,
    ⟨(some 22), (.nilc (.s 21)), none, [1]⟩,
    ⟨(some 23), (.fad 0 (.s 22)), none, [2]⟩,
    ⟨(some 24), (.ldc (.s 23)), none, [3]⟩,
    ⟨(some 25), (.mv (.s 1)), none, []⟩,
    ⟨(some 26), (.sls 1 (.s 24) (some (.s 25)) none none), none, [4, 5]⟩,
    ⟨(some 27), (.nilc (.s 20)), none, [0, 0, 1, 2, 3, 4, 5, 6]⟩,
    ⟨(some 28), (.fad 0 (.s 27)), none, [7, 0, 1, 2, 3, 4, 5, 6]⟩,
    ⟨none, (.stc 1 (.s 28) (.s 26)), none, [8, 6, 0, 1, 2, 3, 4, 5, 6]⟩] false)
  (.seq (.region [
    ⟨(some 29), (.mv (.s 5)), none, []⟩,
    ⟨(some 4), (.mv (.s 29)), none, [0, 0]⟩] false)
  .ret))))), false, none, none, false⟩

/-- (*euphroe/chans.Chan).ok -/
def k110 : Fun := ⟨1, 11, [0, 2], [(.tmp 2)],
  (.seq (.region [
    ⟨(some 2), (.mv (.c (.bool false))), none, []⟩] false)
  (.seq (.region [
    ⟨(some 3), (.mv (.s 0)), none, []⟩,
    ⟨(some 4), (.eqn .p true (.s 3) (.c .nilp)), none, [0]⟩,
    ⟨(some 5), (.mv (.s 4)), none, [1]⟩,
    ⟨(some 6), (.mv (.s 0)), (some (5, true)), [2]⟩,
    ⟨(some 7), (.nilc (.s 6)), (some (5, true)), [3, 2]⟩,
    ⟨(some 8), (.fad 0 (.s 7)), (some (5, true)), [4, 2]⟩,
    ⟨(some 9), (.ldc (.s 8)), (some (5, true)), [5, 2]⟩,
    ⟨(some 10), (.pick (.s 5) (.s 9) (.c (.bool false))), none, [2, 6]⟩,
    ⟨(some 2), (.mv (.s 10)), none, [7, 2, 0, 1, 2, 3, 4, 5, 6, 7]⟩] false)
  .ret)), false, none, none, true⟩

/-- euphroe/chans.isWay -/
def k111 : Fun := ⟨1, 9, [0, 2], [(.tmp 2)],
  (.seq (.region [
    ⟨(some 2), (.mv (.c (.bool false))), none, []⟩] false)
  (.seq (.region [
    ⟨(some 3), (.mv (.s 0)), none, []⟩,
    ⟨(some 4), (.bin .eql (.s 3) (.c (.int .i64 0))), none, [0]⟩,
    ⟨(some 5), (.mv (.s 4)), none, [1]⟩,
    ⟨(some 6), (.mv (.s 0)), (some (5, false)), [2]⟩,
    ⟨(some 7), (.bin .eql (.s 6) (.c (.int .i64 1))), (some (5, false)), [3, 2]⟩,
    ⟨(some 8), (.pick (.s 5) (.c (.bool true)) (.s 7)), none, [2, 4]⟩,
    ⟨(some 2), (.mv (.s 8)), none, [5, 2, 0, 1, 2, 3, 4, 5]⟩] false)
  .ret)), false, none, none, false⟩

/-- euphroe/euphroeref38.way -/
def k112 : Fun := ⟨1, 9, [0, 2], [(.tmp 2)],
  (.seq (.region [
    ⟨(some 2), (.mv (.c (.bool false))), none, []⟩] false)
  (.seq (.region [
    ⟨(some 3), (.mv (.s 0)), none, []⟩,
    ⟨(some 4), (.bin .eql (.s 3) (.c (.int .i64 0))), none, [0]⟩,
    ⟨(some 5), (.mv (.s 4)), none, [1]⟩,
    ⟨(some 6), (.mv (.s 0)), (some (5, false)), [2]⟩,
    ⟨(some 7), (.bin .eql (.s 6) (.c (.int .i64 1))), (some (5, false)), [3, 2]⟩,
    ⟨(some 8), (.pick (.s 5) (.c (.bool true)) (.s 7)), none, [2, 4]⟩,
    ⟨(some 2), (.mv (.s 8)), none, [5, 2, 0, 1, 2, 3, 4, 5]⟩] false)
  .ret)), false, (some [(Sh.int .i64)]), (some Sh.bool), false⟩

/-- euphroe/euphroeref38.cut -/
def k113 : Fun := ⟨3, 31, [0, 1, 2, 3, 6, 7, 8], [(.cell 6 9 true none), (.tmp 7)],
  (.seq (.region [
    ⟨(some 3), (.box (.s 0)), none, []⟩,
    ⟨(some 6), (.new (.vals [.nils, (.int .i64 0), (.int .i64 0), (.int .i64 0), .nils, (.int .i64 0), (.int .i64 0), (.int .i64 0), (.bool false)])), none, []⟩,
    ⟨(some 7), (.mv (.c .nils)), none, []⟩] false)
  (.seq (.region [
    ⟨(some 9), (.mv (.s 1)), none, []⟩,
    ⟨(some 10), (.fad 0 (.s 3)), none, []⟩,
    ⟨(some 11), (.iaa 2 4 (.s 10) (.s 9)), none, [1, 0]⟩,
    ⟨(some 12), (.fad 0 (.s 11)), none, [2]⟩,
    ⟨(some 13), (.ldc (.s 12)), none, [3]⟩,
    ⟨(some 8), (.mv (.s 13)), none, [4, 0, 1, 2, 3, 4]⟩] false)
  (.seq (.region [
    ⟨(some 14), (.mv (.s 2)), none, []⟩,
    ⟨(some 15), (.mv (.s 8)), none, []⟩,
    ⟨(some 16), (.len false (.s 15)), none, [1]⟩,
    ⟨(some 17), (.mnx false [(.s 14), (.s 16)]), none, [0, 2]⟩,
    ⟨(some 2), (.mv (.s 17)), none, [3, 0, 1, 2, 3]⟩] false)
  (.seq (.region [
    ⟨(some 18), (.mv (.s 1)), none, []⟩,
    ⟨(some 19), (.mv (.s 8)), none, []⟩,
    ⟨(some 20), (.mv (.s 2)), none, []⟩,
    ⟨(some 21), (.sls 1 (.s 19) (some (.s 20)) none none), none, [1, 2]⟩,
    ⟨(some 22), (.app 1 1 (.c .nils) (.s 21)), none, [3]⟩,
    ⟨(some 23), (.fad 0 (.s 3)), none, []⟩,
    ⟨(some 24), (.iaa 2 4 (.s 23) (.s 18)), none, [5, 0, 0, 1, 2, 3, 4]⟩,
    ⟨(some 25), (.fad 0 (.s 24)), none, [6, 0, 1, 2, 3, 4]⟩,
    ⟨none, (.stc 1 (.s 25) (.s 22)), none, [7, 4, 4, 0, 1, 2, 3, 4]⟩] false)
  (.seq (.region [
    ⟨(some 26), (.lda 9 none (.s 3)), none, []⟩,
    ⟨(some 27), (.mv (.s 8)), none, []⟩,
    ⟨(some 28), (.mv (.s 2)), none, []⟩,
    ⟨(some 29), (.sls 1 (.s 27) none (some (.s 28)) none), none, [1, 2]⟩,
    ⟨(some 30), (.app 1 1 (.c .nils) (.s 29)), none, [3]⟩,
    ⟨none, (.stc 9 (.s 6) (.s 26)), none, [0, 4, 0]⟩,
    ⟨(some 7), (.mv (.s 30)), none, [4, 5, 0, 1, 2, 3, 4, 5]⟩] true)
  .ret))))), false, (some [(Sh.st (Sh.pr (Sh.sl (Sh.int .u8)) (Sh.pr (Sh.int .i64) (Sh.pr (Sh.int .i64) (Sh.pr (Sh.int .i64) (Sh.pr (Sh.sl (Sh.int .u8)) (Sh.pr (Sh.int .i64) (Sh.pr (Sh.int .i64) (Sh.pr (Sh.int .i64) Sh.bool))))))))), (Sh.int .i64), (Sh.int .i64)]), (some (Sh.tu (Sh.pr (Sh.st (Sh.pr (Sh.sl (Sh.int .u8)) (Sh.pr (Sh.int .i64) (Sh.pr (Sh.int .i64) (Sh.pr (Sh.int .i64) (Sh.pr (Sh.sl (Sh.int .u8)) (Sh.pr (Sh.int .i64) (Sh.pr (Sh.int .i64) (Sh.pr (Sh.int .i64) Sh.bool))))))))) (Sh.sl (Sh.int .u8))))), false⟩

def FT : Nat → Option Fun
  | 23 => some k23
  | 73 => some k73
  | 84 => some k84
  | 85 => some k85
  | 86 => some k86
  | 87 => some k87
  | 88 => some k88
  | 89 => some k89
  | 90 => some k90
  | 91 => some k91
  | 92 => some k92
  | 93 => some k93
  | 94 => some k94
  | 95 => some k95
  | 96 => some k96
  | 97 => some k97
  | 98 => some k98
  | 99 => some k99
  | 106 => some k106
  | 107 => some k107
  | 109 => some k109
  | 110 => some k110
  | 111 => some k111
  | 112 => some k112
  | 113 => some k113
  | _ => none
end Go.Proofs.YtcnkihdjenjdgaaE
