/- The functions as plain ones. -/
import Derived.Test.YtcnkihdjenjdgaaEvGK3a
namespace Go.Proofs.YtcnkihdjenjdgaaE
open Go
set_option linter.unusedVariables false
set_option linter.unusedSimpArgs false
def L73_1 (c84 : D84) (d86v2 : D86v2) (c93 : D93) (c108 : D108) (c23 : D23) (d88v2 : D88v2) (c94 : D94) (d87v1 : D87v1) (c95 : D95) (d92v1 : D92v1) (c112 : D112) (d97v0 : D97v0) (d92v2 : D92v2) (d86v1 : D86v1) (d88v1 : D88v1) (d87v2 : D87v2) (d92v3 : D92v3) (d97v1 : D97v1) (d92v0 : D92v0) (N : Nat) (q1_3 : Nat → Nat → List (Int × Bool × Bool × Int × Int × Int × (List Int)) → Int → Int → List Int → Int → Int → Int → List Int → Int → Int → Int → Bool → List Int → Int → Int → Int → List Int → Int → Int → Int → Bool → List Int → Int → Int → Int → List Int → Int → Int → Int → Bool → List Int → Int → Int → Int → List Int → Int → Int → Int → Bool → Option Bool) : Nat → Nat → Nat → List (Int × Bool × Bool × Int × Int × Int × (List Int)) → Int → Int → Nat → Nat → Int → Int → List Int → Int → Int → Int → List Int → Int → Int → Int → Bool → List Int → Int → Int → Int → List Int → Int → Int → Int → Bool → List Int → Int → Int → Int → List Int → Int → Int → Int → Bool → List Int → Int → Int → Int → List Int → Int → Int → Int → Bool → Option Bool
  | 0, _, _, _, _, _, _, _, _, _, _, _, _, _, _, _, _, _, _, _, _, _, _, _, _, _, _, _, _, _, _, _, _, _, _, _, _, _, _, _, _, _, _, _, _, _ => none
  | n1 + 1, v46, v47, v48, v49, v50, v51, v52, v53, v54, v55, v56, v57, v58, v59, v60, v61, v62, v63, v64, v65, v66, v67, v68, v69, v70, v71, v72, v73, v74, v75, v76, v77, v78, v79, v80, v81, v82, v83, v84, v85, v86, v87, v88, v89, v90 =>
    bif (decide (v54 < v53)) then
 bif ((decide ((0 : Int) ≤ v54)) && (decide (v54 < ((v51 : Nat) : Int)))) then
 bif (Nat.beq (Int.toNat v54) 0) then
 bif ((decide ((0 : Int) ≤ v54)) && (decide (v54 < (2 : Int)))) then
 bif (Nat.beq (Int.toNat v54) 0) then
 match c108 v55 with
 | none => none
 | some r91 =>
 bif (decide ((0 + ((List.length r91) * 1)) ≤ (List.length r91))) then
 match c23 (List.take (List.length r91) (List.drop 0 r91)) v73 with
 | none => none
 | some r92 =>
 bif (!r92) then
 some false
 else
 match c108 v55 with
 | none => none
 | some r93 =>
 bif (decide ((0 + ((List.length r93) * 1)) ≤ (List.length r93))) then
 bif ((((List.length (List.take (List.length r93) (List.drop 0 r93))) : Nat) : Int) != (((List.length v73) : Nat) : Int)) then
 some false
 else
 bif (v56 != v74) then
 some false
 else
 bif (v57 != v75) then
 some false
 else
 bif (v58 != v76) then
 some false
 else
 bif ((decide ((0 : Int) ≤ v54)) && (decide (v54 < (2 : Int)))) then
 bif (Nat.beq (Int.toNat v54) 0) then
 bif ((!v63) == v81) then
 some false
 else
 bif ((decide ((0 : Int) ≤ v54)) && (decide (v54 < (2 : Int)))) then
 bif (Nat.beq (Int.toNat v54) 0) then
 match c108 v59 with
 | none => none
 | some r94 =>
 bif (decide ((0 + ((List.length r94) * 1)) ≤ (List.length r94))) then
 match c23 (List.take (List.length r94) (List.drop 0 r94)) v77 with
 | none => none
 | some r95 =>
 bif (!r95) then
 some false
 else
 match c108 v59 with
 | none => none
 | some r96 =>
 bif (decide ((0 + ((List.length r96) * 1)) ≤ (List.length r96))) then
 bif ((((List.length (List.take (List.length r96) (List.drop 0 r96))) : Nat) : Int) != (((List.length v77) : Nat) : Int)) then
 some false
 else
 bif (v60 != v78) then
 some false
 else
 bif (v61 != v79) then
 some false
 else
 bif (v62 != v80) then
 some false
 else
 bif ((decide ((0 : Int) ≤ v54)) && (decide (v54 < (2 : Int)))) then
 bif (Nat.beq (Int.toNat v54) 0) then
 bif ((!v63) == v81) then
 some false
 else
 L73_1 c84 d86v2 c93 c108 c23 d88v2 c94 d87v1 c95 d92v1 c112 d97v0 d92v2 d86v1 d88v1 d87v2 d92v3 d97v1 d92v0 N q1_3 n1 v46 v47 v48 v49 v50 v51 v52 v53 (iadd .i64 v54 (1 : Int)) v55 v56 v57 v58 v59 v60 v61 v62 v63 v64 v65 v66 v67 v68 v69 v70 v71 v72 v73 v74 v75 v76 v77 v78 v79 v80 v81 v82 v83 v84 v85 v86 v87 v88 v89 v90
 else
 bif (Nat.beq (Int.toNat v54) 1) then
 bif ((!v63) == v90) then
 some false
 else
 L73_1 c84 d86v2 c93 c108 c23 d88v2 c94 d87v1 c95 d92v1 c112 d97v0 d92v2 d86v1 d88v1 d87v2 d92v3 d97v1 d92v0 N q1_3 n1 v46 v47 v48 v49 v50 v51 v52 v53 (iadd .i64 v54 (1 : Int)) v55 v56 v57 v58 v59 v60 v61 v62 v63 v64 v65 v66 v67 v68 v69 v70 v71 v72 v73 v74 v75 v76 v77 v78 v79 v80 v81 v82 v83 v84 v85 v86 v87 v88 v89 v90
 else none
 else none
 else none
 else none
 else
 bif (Nat.beq (Int.toNat v54) 1) then
 match c108 v59 with
 | none => none
 | some r97 =>
 bif (decide ((0 + ((List.length r97) * 1)) ≤ (List.length r97))) then
 match c23 (List.take (List.length r97) (List.drop 0 r97)) v86 with
 | none => none
 | some r98 =>
 bif (!r98) then
 some false
 else
 match c108 v59 with
 | none => none
 | some r99 =>
 bif (decide ((0 + ((List.length r99) * 1)) ≤ (List.length r99))) then
 bif ((((List.length (List.take (List.length r99) (List.drop 0 r99))) : Nat) : Int) != (((List.length v86) : Nat) : Int)) then
 some false
 else
 bif (v60 != v87) then
 some false
 else
 bif (v61 != v88) then
 some false
 else
 bif (v62 != v89) then
 some false
 else
 bif ((decide ((0 : Int) ≤ v54)) && (decide (v54 < (2 : Int)))) then
 bif (Nat.beq (Int.toNat v54) 0) then
 bif ((!v63) == v81) then
 some false
 else
 L73_1 c84 d86v2 c93 c108 c23 d88v2 c94 d87v1 c95 d92v1 c112 d97v0 d92v2 d86v1 d88v1 d87v2 d92v3 d97v1 d92v0 N q1_3 n1 v46 v47 v48 v49 v50 v51 v52 v53 (iadd .i64 v54 (1 : Int)) v55 v56 v57 v58 v59 v60 v61 v62 v63 v64 v65 v66 v67 v68 v69 v70 v71 v72 v73 v74 v75 v76 v77 v78 v79 v80 v81 v82 v83 v84 v85 v86 v87 v88 v89 v90
 else
 bif (Nat.beq (Int.toNat v54) 1) then
 bif ((!v63) == v90) then
 some false
 else
 L73_1 c84 d86v2 c93 c108 c23 d88v2 c94 d87v1 c95 d92v1 c112 d97v0 d92v2 d86v1 d88v1 d87v2 d92v3 d97v1 d92v0 N q1_3 n1 v46 v47 v48 v49 v50 v51 v52 v53 (iadd .i64 v54 (1 : Int)) v55 v56 v57 v58 v59 v60 v61 v62 v63 v64 v65 v66 v67 v68 v69 v70 v71 v72 v73 v74 v75 v76 v77 v78 v79 v80 v81 v82 v83 v84 v85 v86 v87 v88 v89 v90
 else none
 else none
 else none
 else none
 else none
 else none
 else
 bif (Nat.beq (Int.toNat v54) 1) then
 bif ((!v63) == v90) then
 some false
 else
 bif ((decide ((0 : Int) ≤ v54)) && (decide (v54 < (2 : Int)))) then
 bif (Nat.beq (Int.toNat v54) 0) then
 match c108 v59 with
 | none => none
 | some r100 =>
 bif (decide ((0 + ((List.length r100) * 1)) ≤ (List.length r100))) then
 match c23 (List.take (List.length r100) (List.drop 0 r100)) v77 with
 | none => none
 | some r101 =>
 bif (!r101) then
 some false
 else
 match c108 v59 with
 | none => none
 | some r102 =>
 bif (decide ((0 + ((List.length r102) * 1)) ≤ (List.length r102))) then
 bif ((((List.length (List.take (List.length r102) (List.drop 0 r102))) : Nat) : Int) != (((List.length v77) : Nat) : Int)) then
 some false
 else
 bif (v60 != v78) then
 some false
 else
 bif (v61 != v79) then
 some false
 else
 bif (v62 != v80) then
 some false
 else
 bif ((decide ((0 : Int) ≤ v54)) && (decide (v54 < (2 : Int)))) then
 bif (Nat.beq (Int.toNat v54) 0) then
 bif ((!v63) == v81) then
 some false
 else
 L73_1 c84 d86v2 c93 c108 c23 d88v2 c94 d87v1 c95 d92v1 c112 d97v0 d92v2 d86v1 d88v1 d87v2 d92v3 d97v1 d92v0 N q1_3 n1 v46 v47 v48 v49 v50 v51 v52 v53 (iadd .i64 v54 (1 : Int)) v55 v56 v57 v58 v59 v60 v61 v62 v63 v64 v65 v66 v67 v68 v69 v70 v71 v72 v73 v74 v75 v76 v77 v78 v79 v80 v81 v82 v83 v84 v85 v86 v87 v88 v89 v90
 else
 bif (Nat.beq (Int.toNat v54) 1) then
 bif ((!v63) == v90) then
 some false
 else
 L73_1 c84 d86v2 c93 c108 c23 d88v2 c94 d87v1 c95 d92v1 c112 d97v0 d92v2 d86v1 d88v1 d87v2 d92v3 d97v1 d92v0 N q1_3 n1 v46 v47 v48 v49 v50 v51 v52 v53 (iadd .i64 v54 (1 : Int)) v55 v56 v57 v58 v59 v60 v61 v62 v63 v64 v65 v66 v67 v68 v69 v70 v71 v72 v73 v74 v75 v76 v77 v78 v79 v80 v81 v82 v83 v84 v85 v86 v87 v88 v89 v90
 else none
 else none
 else none
 else none
 else
 bif (Nat.beq (Int.toNat v54) 1) then
 match c108 v59 with
 | none => none
 | some r103 =>
 bif (decide ((0 + ((List.length r103) * 1)) ≤ (List.length r103))) then
 match c23 (List.take (List.length r103) (List.drop 0 r103)) v86 with
 | none => none
 | some r104 =>
 bif (!r104) then
 some false
 else
 match c108 v59 with
 | none => none
 | some r105 =>
 bif (decide ((0 + ((List.length r105) * 1)) ≤ (List.length r105))) then
 bif ((((List.length (List.take (List.length r105) (List.drop 0 r105))) : Nat) : Int) != (((List.length v86) : Nat) : Int)) then
 some false
 else
 bif (v60 != v87) then
 some false
 else
 bif (v61 != v88) then
 some false
 else
 bif (v62 != v89) then
 some false
 else
 bif ((decide ((0 : Int) ≤ v54)) && (decide (v54 < (2 : Int)))) then
 bif (Nat.beq (Int.toNat v54) 0) then
 bif ((!v63) == v81) then
 some false
 else
 L73_1 c84 d86v2 c93 c108 c23 d88v2 c94 d87v1 c95 d92v1 c112 d97v0 d92v2 d86v1 d88v1 d87v2 d92v3 d97v1 d92v0 N q1_3 n1 v46 v47 v48 v49 v50 v51 v52 v53 (iadd .i64 v54 (1 : Int)) v55 v56 v57 v58 v59 v60 v61 v62 v63 v64 v65 v66 v67 v68 v69 v70 v71 v72 v73 v74 v75 v76 v77 v78 v79 v80 v81 v82 v83 v84 v85 v86 v87 v88 v89 v90
 else
 bif (Nat.beq (Int.toNat v54) 1) then
 bif ((!v63) == v90) then
 some false
 else
 L73_1 c84 d86v2 c93 c108 c23 d88v2 c94 d87v1 c95 d92v1 c112 d97v0 d92v2 d86v1 d88v1 d87v2 d92v3 d97v1 d92v0 N q1_3 n1 v46 v47 v48 v49 v50 v51 v52 v53 (iadd .i64 v54 (1 : Int)) v55 v56 v57 v58 v59 v60 v61 v62 v63 v64 v65 v66 v67 v68 v69 v70 v71 v72 v73 v74 v75 v76 v77 v78 v79 v80 v81 v82 v83 v84 v85 v86 v87 v88 v89 v90
 else none
 else none
 else none
 else none
 else none
 else none
 else none
 else none
 else none
 else none
 else
 bif (Nat.beq (Int.toNat v54) 1) then
 match c108 v55 with
 | none => none
 | some r106 =>
 bif (decide ((0 + ((List.length r106) * 1)) ≤ (List.length r106))) then
 match c23 (List.take (List.length r106) (List.drop 0 r106)) v82 with
 | none => none
 | some r107 =>
 bif (!r107) then
 some false
 else
 match c108 v55 with
 | none => none
 | some r108 =>
 bif (decide ((0 + ((List.length r108) * 1)) ≤ (List.length r108))) then
 bif ((((List.length (List.take (List.length r108) (List.drop 0 r108))) : Nat) : Int) != (((List.length v82) : Nat) : Int)) then
 some false
 else
 bif (v56 != v83) then
 some false
 else
 bif (v57 != v84) then
 some false
 else
 bif (v58 != v85) then
 some false
 else
 bif ((decide ((0 : Int) ≤ v54)) && (decide (v54 < (2 : Int)))) then
 bif (Nat.beq (Int.toNat v54) 0) then
 bif ((!v63) == v81) then
 some false
 else
 bif ((decide ((0 : Int) ≤ v54)) && (decide (v54 < (2 : Int)))) then
 bif (Nat.beq (Int.toNat v54) 0) then
 match c108 v59 with
 | none => none
 | some r109 =>
 bif (decide ((0 + ((List.length r109) * 1)) ≤ (List.length r109))) then
 match c23 (List.take (List.length r109) (List.drop 0 r109)) v77 with
 | none => none
 | some r110 =>
 bif (!r110) then
 some false
 else
 match c108 v59 with
 | none => none
 | some r111 =>
 bif (decide ((0 + ((List.length r111) * 1)) ≤ (List.length r111))) then
 bif ((((List.length (List.take (List.length r111) (List.drop 0 r111))) : Nat) : Int) != (((List.length v77) : Nat) : Int)) then
 some false
 else
 bif (v60 != v78) then
 some false
 else
 bif (v61 != v79) then
 some false
 else
 bif (v62 != v80) then
 some false
 else
 bif ((decide ((0 : Int) ≤ v54)) && (decide (v54 < (2 : Int)))) then
 bif (Nat.beq (Int.toNat v54) 0) then
 bif ((!v63) == v81) then
 some false
 else
 L73_1 c84 d86v2 c93 c108 c23 d88v2 c94 d87v1 c95 d92v1 c112 d97v0 d92v2 d86v1 d88v1 d87v2 d92v3 d97v1 d92v0 N q1_3 n1 v46 v47 v48 v49 v50 v51 v52 v53 (iadd .i64 v54 (1 : Int)) v55 v56 v57 v58 v59 v60 v61 v62 v63 v64 v65 v66 v67 v68 v69 v70 v71 v72 v73 v74 v75 v76 v77 v78 v79 v80 v81 v82 v83 v84 v85 v86 v87 v88 v89 v90
 else
 bif (Nat.beq (Int.toNat v54) 1) then
 bif ((!v63) == v90) then
 some false
 else
 L73_1 c84 d86v2 c93 c108 c23 d88v2 c94 d87v1 c95 d92v1 c112 d97v0 d92v2 d86v1 d88v1 d87v2 d92v3 d97v1 d92v0 N q1_3 n1 v46 v47 v48 v49 v50 v51 v52 v53 (iadd .i64 v54 (1 : Int)) v55 v56 v57 v58 v59 v60 v61 v62 v63 v64 v65 v66 v67 v68 v69 v70 v71 v72 v73 v74 v75 v76 v77 v78 v79 v80 v81 v82 v83 v84 v85 v86 v87 v88 v89 v90
 else none
 else none
 else none
 else none
 else
 bif (Nat.beq (Int.toNat v54) 1) then
 match c108 v59 with
 | none => none
 | some r112 =>
 bif (decide ((0 + ((List.length r112) * 1)) ≤ (List.length r112))) then
 match c23 (List.take (List.length r112) (List.drop 0 r112)) v86 with
 | none => none
 | some r113 =>
 bif (!r113) then
 some false
 else
 match c108 v59 with
 | none => none
 | some r114 =>
 bif (decide ((0 + ((List.length r114) * 1)) ≤ (List.length r114))) then
 bif ((((List.length (List.take (List.length r114) (List.drop 0 r114))) : Nat) : Int) != (((List.length v86) : Nat) : Int)) then
 some false
 else
 bif (v60 != v87) then
 some false
 else
 bif (v61 != v88) then
 some false
 else
 bif (v62 != v89) then
 some false
 else
 bif ((decide ((0 : Int) ≤ v54)) && (decide (v54 < (2 : Int)))) then
 bif (Nat.beq (Int.toNat v54) 0) then
 bif ((!v63) == v81) then
 some false
 else
 L73_1 c84 d86v2 c93 c108 c23 d88v2 c94 d87v1 c95 d92v1 c112 d97v0 d92v2 d86v1 d88v1 d87v2 d92v3 d97v1 d92v0 N q1_3 n1 v46 v47 v48 v49 v50 v51 v52 v53 (iadd .i64 v54 (1 : Int)) v55 v56 v57 v58 v59 v60 v61 v62 v63 v64 v65 v66 v67 v68 v69 v70 v71 v72 v73 v74 v75 v76 v77 v78 v79 v80 v81 v82 v83 v84 v85 v86 v87 v88 v89 v90
 else
 bif (Nat.beq (Int.toNat v54) 1) then
 bif ((!v63) == v90) then
 some false
 else
 L73_1 c84 d86v2 c93 c108 c23 d88v2 c94 d87v1 c95 d92v1 c112 d97v0 d92v2 d86v1 d88v1 d87v2 d92v3 d97v1 d92v0 N q1_3 n1 v46 v47 v48 v49 v50 v51 v52 v53 (iadd .i64 v54 (1 : Int)) v55 v56 v57 v58 v59 v60 v61 v62 v63 v64 v65 v66 v67 v68 v69 v70 v71 v72 v73 v74 v75 v76 v77 v78 v79 v80 v81 v82 v83 v84 v85 v86 v87 v88 v89 v90
 else none
 else none
 else none
 else none
 else none
 else none
 else
 bif (Nat.beq (Int.toNat v54) 1) then
 bif ((!v63) == v90) then
 some false
 else
 bif ((decide ((0 : Int) ≤ v54)) && (decide (v54 < (2 : Int)))) then
 bif (Nat.beq (Int.toNat v54) 0) then
 match c108 v59 with
 | none => none
 | some r115 =>
 bif (decide ((0 + ((List.length r115) * 1)) ≤ (List.length r115))) then
 match c23 (List.take (List.length r115) (List.drop 0 r115)) v77 with
 | none => none
 | some r116 =>
 bif (!r116) then
 some false
 else
 match c108 v59 with
 | none => none
 | some r117 =>
 bif (decide ((0 + ((List.length r117) * 1)) ≤ (List.length r117))) then
 bif ((((List.length (List.take (List.length r117) (List.drop 0 r117))) : Nat) : Int) != (((List.length v77) : Nat) : Int)) then
 some false
 else
 bif (v60 != v78) then
 some false
 else
 bif (v61 != v79) then
 some false
 else
 bif (v62 != v80) then
 some false
 else
 bif ((decide ((0 : Int) ≤ v54)) && (decide (v54 < (2 : Int)))) then
 bif (Nat.beq (Int.toNat v54) 0) then
 bif ((!v63) == v81) then
 some false
 else
 L73_1 c84 d86v2 c93 c108 c23 d88v2 c94 d87v1 c95 d92v1 c112 d97v0 d92v2 d86v1 d88v1 d87v2 d92v3 d97v1 d92v0 N q1_3 n1 v46 v47 v48 v49 v50 v51 v52 v53 (iadd .i64 v54 (1 : Int)) v55 v56 v57 v58 v59 v60 v61 v62 v63 v64 v65 v66 v67 v68 v69 v70 v71 v72 v73 v74 v75 v76 v77 v78 v79 v80 v81 v82 v83 v84 v85 v86 v87 v88 v89 v90
 else
 bif (Nat.beq (Int.toNat v54) 1) then
 bif ((!v63) == v90) then
 some false
 else
 L73_1 c84 d86v2 c93 c108 c23 d88v2 c94 d87v1 c95 d92v1 c112 d97v0 d92v2 d86v1 d88v1 d87v2 d92v3 d97v1 d92v0 N q1_3 n1 v46 v47 v48 v49 v50 v51 v52 v53 (iadd .i64 v54 (1 : Int)) v55 v56 v57 v58 v59 v60 v61 v62 v63 v64 v65 v66 v67 v68 v69 v70 v71 v72 v73 v74 v75 v76 v77 v78 v79 v80 v81 v82 v83 v84 v85 v86 v87 v88 v89 v90
 else none
 else none
 else none
 else none
 else
 bif (Nat.beq (Int.toNat v54) 1) then
 match c108 v59 with
 | none => none
 | some r118 =>
 bif (decide ((0 + ((List.length r118) * 1)) ≤ (List.length r118))) then
 match c23 (List.take (List.length r118) (List.drop 0 r118)) v86 with
 | none => none
 | some r119 =>
 bif (!r119) then
 some false
 else
 match c108 v59 with
 | none => none
 | some r120 =>
 bif (decide ((0 + ((List.length r120) * 1)) ≤ (List.length r120))) then
 bif ((((List.length (List.take (List.length r120) (List.drop 0 r120))) : Nat) : Int) != (((List.length v86) : Nat) : Int)) then
 some false
 else
 bif (v60 != v87) then
 some false
 else
 bif (v61 != v88) then
 some false
 else
 bif (v62 != v89) then
 some false
 else
 bif ((decide ((0 : Int) ≤ v54)) && (decide (v54 < (2 : Int)))) then
 bif (Nat.beq (Int.toNat v54) 0) then
 bif ((!v63) == v81) then
 some false
 else
 L73_1 c84 d86v2 c93 c108 c23 d88v2 c94 d87v1 c95 d92v1 c112 d97v0 d92v2 d86v1 d88v1 d87v2 d92v3 d97v1 d92v0 N q1_3 n1 v46 v47 v48 v49 v50 v51 v52 v53 (iadd .i64 v54 (1 : Int)) v55 v56 v57 v58 v59 v60 v61 v62 v63 v64 v65 v66 v67 v68 v69 v70 v71 v72 v73 v74 v75 v76 v77 v78 v79 v80 v81 v82 v83 v84 v85 v86 v87 v88 v89 v90
 else
 bif (Nat.beq (Int.toNat v54) 1) then
 bif ((!v63) == v90) then
 some false
 else
 L73_1 c84 d86v2 c93 c108 c23 d88v2 c94 d87v1 c95 d92v1 c112 d97v0 d92v2 d86v1 d88v1 d87v2 d92v3 d97v1 d92v0 N q1_3 n1 v46 v47 v48 v49 v50 v51 v52 v53 (iadd .i64 v54 (1 : Int)) v55 v56 v57 v58 v59 v60 v61 v62 v63 v64 v65 v66 v67 v68 v69 v70 v71 v72 v73 v74 v75 v76 v77 v78 v79 v80 v81 v82 v83 v84 v85 v86 v87 v88 v89 v90
 else none
 else none
 else none
 else none
 else none
 else none
 else none
 else none
 else none
 else none
 else none
 else none
 else
 bif (Nat.beq (Int.toNat v54) 1) then
 bif ((decide ((0 : Int) ≤ v54)) && (decide (v54 < (2 : Int)))) then
 bif (Nat.beq (Int.toNat v54) 0) then
 match c108 v64 with
 | none => none
 | some r121 =>
 bif (decide ((0 + ((List.length r121) * 1)) ≤ (List.length r121))) then
 match c23 (List.take (List.length r121) (List.drop 0 r121)) v73 with
 | none => none
 | some r122 =>
 bif (!r122) then
 some false
 else
 match c108 v64 with
 | none => none
 | some r123 =>
 bif (decide ((0 + ((List.length r123) * 1)) ≤ (List.length r123))) then
 bif ((((List.length (List.take (List.length r123) (List.drop 0 r123))) : Nat) : Int) != (((List.length v73) : Nat) : Int)) then
 some false
 else
 bif (v65 != v74) then
 some false
 else
 bif (v66 != v75) then
 some false
 else
 bif (v67 != v76) then
 some false
 else
 bif ((decide ((0 : Int) ≤ v54)) && (decide (v54 < (2 : Int)))) then
 bif (Nat.beq (Int.toNat v54) 0) then
 bif ((!v72) == v81) then
 some false
 else
 bif ((decide ((0 : Int) ≤ v54)) && (decide (v54 < (2 : Int)))) then
 bif (Nat.beq (Int.toNat v54) 0) then
 match c108 v68 with
 | none => none
 | some r124 =>
 bif (decide ((0 + ((List.length r124) * 1)) ≤ (List.length r124))) then
 match c23 (List.take (List.length r124) (List.drop 0 r124)) v77 with
 | none => none
 | some r125 =>
 bif (!r125) then
 some false
 else
 match c108 v68 with
 | none => none
 | some r126 =>
 bif (decide ((0 + ((List.length r126) * 1)) ≤ (List.length r126))) then
 bif ((((List.length (List.take (List.length r126) (List.drop 0 r126))) : Nat) : Int) != (((List.length v77) : Nat) : Int)) then
 some false
 else
 bif (v69 != v78) then
 some false
 else
 bif (v70 != v79) then
 some false
 else
 bif (v71 != v80) then
 some false
 else
 bif ((decide ((0 : Int) ≤ v54)) && (decide (v54 < (2 : Int)))) then
 bif (Nat.beq (Int.toNat v54) 0) then
 bif ((!v72) == v81) then
 some false
 else
 L73_1 c84 d86v2 c93 c108 c23 d88v2 c94 d87v1 c95 d92v1 c112 d97v0 d92v2 d86v1 d88v1 d87v2 d92v3 d97v1 d92v0 N q1_3 n1 v46 v47 v48 v49 v50 v51 v52 v53 (iadd .i64 v54 (1 : Int)) v55 v56 v57 v58 v59 v60 v61 v62 v63 v64 v65 v66 v67 v68 v69 v70 v71 v72 v73 v74 v75 v76 v77 v78 v79 v80 v81 v82 v83 v84 v85 v86 v87 v88 v89 v90
 else
 bif (Nat.beq (Int.toNat v54) 1) then
 bif ((!v72) == v90) then
 some false
 else
 L73_1 c84 d86v2 c93 c108 c23 d88v2 c94 d87v1 c95 d92v1 c112 d97v0 d92v2 d86v1 d88v1 d87v2 d92v3 d97v1 d92v0 N q1_3 n1 v46 v47 v48 v49 v50 v51 v52 v53 (iadd .i64 v54 (1 : Int)) v55 v56 v57 v58 v59 v60 v61 v62 v63 v64 v65 v66 v67 v68 v69 v70 v71 v72 v73 v74 v75 v76 v77 v78 v79 v80 v81 v82 v83 v84 v85 v86 v87 v88 v89 v90
 else none
 else none
 else none
 else none
 else
 bif (Nat.beq (Int.toNat v54) 1) then
 match c108 v68 with
 | none => none
 | some r127 =>
 bif (decide ((0 + ((List.length r127) * 1)) ≤ (List.length r127))) then
 match c23 (List.take (List.length r127) (List.drop 0 r127)) v86 with
 | none => none
 | some r128 =>
 bif (!r128) then
 some false
 else
 match c108 v68 with
 | none => none
 | some r129 =>
 bif (decide ((0 + ((List.length r129) * 1)) ≤ (List.length r129))) then
 bif ((((List.length (List.take (List.length r129) (List.drop 0 r129))) : Nat) : Int) != (((List.length v86) : Nat) : Int)) then
 some false
 else
 bif (v69 != v87) then
 some false
 else
 bif (v70 != v88) then
 some false
 else
 bif (v71 != v89) then
 some false
 else
 bif ((decide ((0 : Int) ≤ v54)) && (decide (v54 < (2 : Int)))) then
 bif (Nat.beq (Int.toNat v54) 0) then
 bif ((!v72) == v81) then
 some false
 else
 L73_1 c84 d86v2 c93 c108 c23 d88v2 c94 d87v1 c95 d92v1 c112 d97v0 d92v2 d86v1 d88v1 d87v2 d92v3 d97v1 d92v0 N q1_3 n1 v46 v47 v48 v49 v50 v51 v52 v53 (iadd .i64 v54 (1 : Int)) v55 v56 v57 v58 v59 v60 v61 v62 v63 v64 v65 v66 v67 v68 v69 v70 v71 v72 v73 v74 v75 v76 v77 v78 v79 v80 v81 v82 v83 v84 v85 v86 v87 v88 v89 v90
 else
 bif (Nat.beq (Int.toNat v54) 1) then
 bif ((!v72) == v90) then
 some false
 else
 L73_1 c84 d86v2 c93 c108 c23 d88v2 c94 d87v1 c95 d92v1 c112 d97v0 d92v2 d86v1 d88v1 d87v2 d92v3 d97v1 d92v0 N q1_3 n1 v46 v47 v48 v49 v50 v51 v52 v53 (iadd .i64 v54 (1 : Int)) v55 v56 v57 v58 v59 v60 v61 v62 v63 v64 v65 v66 v67 v68 v69 v70 v71 v72 v73 v74 v75 v76 v77 v78 v79 v80 v81 v82 v83 v84 v85 v86 v87 v88 v89 v90
 else none
 else none
 else none
 else none
 else none
 else none
 else
 bif (Nat.beq (Int.toNat v54) 1) then
 bif ((!v72) == v90) then
 some false
 else
 bif ((decide ((0 : Int) ≤ v54)) && (decide (v54 < (2 : Int)))) then
 bif (Nat.beq (Int.toNat v54) 0) then
 match c108 v68 with
 | none => none
 | some r130 =>
 bif (decide ((0 + ((List.length r130) * 1)) ≤ (List.length r130))) then
 match c23 (List.take (List.length r130) (List.drop 0 r130)) v77 with
 | none => none
 | some r131 =>
 bif (!r131) then
 some false
 else
 match c108 v68 with
 | none => none
 | some r132 =>
 bif (decide ((0 + ((List.length r132) * 1)) ≤ (List.length r132))) then
 bif ((((List.length (List.take (List.length r132) (List.drop 0 r132))) : Nat) : Int) != (((List.length v77) : Nat) : Int)) then
 some false
 else
 bif (v69 != v78) then
 some false
 else
 bif (v70 != v79) then
 some false
 else
 bif (v71 != v80) then
 some false
 else
 bif ((decide ((0 : Int) ≤ v54)) && (decide (v54 < (2 : Int)))) then
 bif (Nat.beq (Int.toNat v54) 0) then
 bif ((!v72) == v81) then
 some false
 else
 L73_1 c84 d86v2 c93 c108 c23 d88v2 c94 d87v1 c95 d92v1 c112 d97v0 d92v2 d86v1 d88v1 d87v2 d92v3 d97v1 d92v0 N q1_3 n1 v46 v47 v48 v49 v50 v51 v52 v53 (iadd .i64 v54 (1 : Int)) v55 v56 v57 v58 v59 v60 v61 v62 v63 v64 v65 v66 v67 v68 v69 v70 v71 v72 v73 v74 v75 v76 v77 v78 v79 v80 v81 v82 v83 v84 v85 v86 v87 v88 v89 v90
 else
 bif (Nat.beq (Int.toNat v54) 1) then
 bif ((!v72) == v90) then
 some false
 else
 L73_1 c84 d86v2 c93 c108 c23 d88v2 c94 d87v1 c95 d92v1 c112 d97v0 d92v2 d86v1 d88v1 d87v2 d92v3 d97v1 d92v0 N q1_3 n1 v46 v47 v48 v49 v50 v51 v52 v53 (iadd .i64 v54 (1 : Int)) v55 v56 v57 v58 v59 v60 v61 v62 v63 v64 v65 v66 v67 v68 v69 v70 v71 v72 v73 v74 v75 v76 v77 v78 v79 v80 v81 v82 v83 v84 v85 v86 v87 v88 v89 v90
 else none
 else none
 else none
 else none
 else
 bif (Nat.beq (Int.toNat v54) 1) then
 match c108 v68 with
 | none => none
 | some r133 =>
 bif (decide ((0 + ((List.length r133) * 1)) ≤ (List.length r133))) then
 match c23 (List.take (List.length r133) (List.drop 0 r133)) v86 with
 | none => none
 | some r134 =>
 bif (!r134) then
 some false
 else
 match c108 v68 with
 | none => none
 | some r135 =>
 bif (decide ((0 + ((List.length r135) * 1)) ≤ (List.length r135))) then
 bif ((((List.length (List.take (List.length r135) (List.drop 0 r135))) : Nat) : Int) != (((List.length v86) : Nat) : Int)) then
 some false
 else
 bif (v69 != v87) then
 some false
 else
 bif (v70 != v88) then
 some false
 else
 bif (v71 != v89) then
 some false
 else
 bif ((decide ((0 : Int) ≤ v54)) && (decide (v54 < (2 : Int)))) then
 bif (Nat.beq (Int.toNat v54) 0) then
 bif ((!v72) == v81) then
 some false
 else
 L73_1 c84 d86v2 c93 c108 c23 d88v2 c94 d87v1 c95 d92v1 c112 d97v0 d92v2 d86v1 d88v1 d87v2 d92v3 d97v1 d92v0 N q1_3 n1 v46 v47 v48 v49 v50 v51 v52 v53 (iadd .i64 v54 (1 : Int)) v55 v56 v57 v58 v59 v60 v61 v62 v63 v64 v65 v66 v67 v68 v69 v70 v71 v72 v73 v74 v75 v76 v77 v78 v79 v80 v81 v82 v83 v84 v85 v86 v87 v88 v89 v90
 else
 bif (Nat.beq (Int.toNat v54) 1) then
 bif ((!v72) == v90) then
 some false
 else
 L73_1 c84 d86v2 c93 c108 c23 d88v2 c94 d87v1 c95 d92v1 c112 d97v0 d92v2 d86v1 d88v1 d87v2 d92v3 d97v1 d92v0 N q1_3 n1 v46 v47 v48 v49 v50 v51 v52 v53 (iadd .i64 v54 (1 : Int)) v55 v56 v57 v58 v59 v60 v61 v62 v63 v64 v65 v66 v67 v68 v69 v70 v71 v72 v73 v74 v75 v76 v77 v78 v79 v80 v81 v82 v83 v84 v85 v86 v87 v88 v89 v90
 else none
 else none
 else none
 else none
 else none
 else none
 else none
 else none
 else none
 else none
 else
 bif (Nat.beq (Int.toNat v54) 1) then
 match c108 v64 with
 | none => none
 | some r136 =>
 bif (decide ((0 + ((List.length r136) * 1)) ≤ (List.length r136))) then
 match c23 (List.take (List.length r136) (List.drop 0 r136)) v82 with
 | none => none
 | some r137 =>
 bif (!r137) then
 some false
 else
 match c108 v64 with
 | none => none
 | some r138 =>
 bif (decide ((0 + ((List.length r138) * 1)) ≤ (List.length r138))) then
 bif ((((List.length (List.take (List.length r138) (List.drop 0 r138))) : Nat) : Int) != (((List.length v82) : Nat) : Int)) then
 some false
 else
 bif (v65 != v83) then
 some false
 else
 bif (v66 != v84) then
 some false
 else
 bif (v67 != v85) then
 some false
 else
 bif ((decide ((0 : Int) ≤ v54)) && (decide (v54 < (2 : Int)))) then
 bif (Nat.beq (Int.toNat v54) 0) then
 bif ((!v72) == v81) then
 some false
 else
 bif ((decide ((0 : Int) ≤ v54)) && (decide (v54 < (2 : Int)))) then
 bif (Nat.beq (Int.toNat v54) 0) then
 match c108 v68 with
 | none => none
 | some r139 =>
 bif (decide ((0 + ((List.length r139) * 1)) ≤ (List.length r139))) then
 match c23 (List.take (List.length r139) (List.drop 0 r139)) v77 with
 | none => none
 | some r140 =>
 bif (!r140) then
 some false
 else
 match c108 v68 with
 | none => none
 | some r141 =>
 bif (decide ((0 + ((List.length r141) * 1)) ≤ (List.length r141))) then
 bif ((((List.length (List.take (List.length r141) (List.drop 0 r141))) : Nat) : Int) != (((List.length v77) : Nat) : Int)) then
 some false
 else
 bif (v69 != v78) then
 some false
 else
 bif (v70 != v79) then
 some false
 else
 bif (v71 != v80) then
 some false
 else
 bif ((decide ((0 : Int) ≤ v54)) && (decide (v54 < (2 : Int)))) then
 bif (Nat.beq (Int.toNat v54) 0) then
 bif ((!v72) == v81) then
 some false
 else
 L73_1 c84 d86v2 c93 c108 c23 d88v2 c94 d87v1 c95 d92v1 c112 d97v0 d92v2 d86v1 d88v1 d87v2 d92v3 d97v1 d92v0 N q1_3 n1 v46 v47 v48 v49 v50 v51 v52 v53 (iadd .i64 v54 (1 : Int)) v55 v56 v57 v58 v59 v60 v61 v62 v63 v64 v65 v66 v67 v68 v69 v70 v71 v72 v73 v74 v75 v76 v77 v78 v79 v80 v81 v82 v83 v84 v85 v86 v87 v88 v89 v90
 else
 bif (Nat.beq (Int.toNat v54) 1) then
 bif ((!v72) == v90) then
 some false
 else
 L73_1 c84 d86v2 c93 c108 c23 d88v2 c94 d87v1 c95 d92v1 c112 d97v0 d92v2 d86v1 d88v1 d87v2 d92v3 d97v1 d92v0 N q1_3 n1 v46 v47 v48 v49 v50 v51 v52 v53 (iadd .i64 v54 (1 : Int)) v55 v56 v57 v58 v59 v60 v61 v62 v63 v64 v65 v66 v67 v68 v69 v70 v71 v72 v73 v74 v75 v76 v77 v78 v79 v80 v81 v82 v83 v84 v85 v86 v87 v88 v89 v90
 else none
 else none
 else none
 else none
 else
 bif (Nat.beq (Int.toNat v54) 1) then
 match c108 v68 with
 | none => none
 | some r142 =>
 bif (decide ((0 + ((List.length r142) * 1)) ≤ (List.length r142))) then
 match c23 (List.take (List.length r142) (List.drop 0 r142)) v86 with
 | none => none
 | some r143 =>
 bif (!r143) then
 some false
 else
 match c108 v68 with
 | none => none
 | some r144 =>
 bif (decide ((0 + ((List.length r144) * 1)) ≤ (List.length r144))) then
 bif ((((List.length (List.take (List.length r144) (List.drop 0 r144))) : Nat) : Int) != (((List.length v86) : Nat) : Int)) then
 some false
 else
 bif (v69 != v87) then
 some false
 else
 bif (v70 != v88) then
 some false
 else
 bif (v71 != v89) then
 some false
 else
 bif ((decide ((0 : Int) ≤ v54)) && (decide (v54 < (2 : Int)))) then
 bif (Nat.beq (Int.toNat v54) 0) then
 bif ((!v72) == v81) then
 some false
 else
 L73_1 c84 d86v2 c93 c108 c23 d88v2 c94 d87v1 c95 d92v1 c112 d97v0 d92v2 d86v1 d88v1 d87v2 d92v3 d97v1 d92v0 N q1_3 n1 v46 v47 v48 v49 v50 v51 v52 v53 (iadd .i64 v54 (1 : Int)) v55 v56 v57 v58 v59 v60 v61 v62 v63 v64 v65 v66 v67 v68 v69 v70 v71 v72 v73 v74 v75 v76 v77 v78 v79 v80 v81 v82 v83 v84 v85 v86 v87 v88 v89 v90
 else
 bif (Nat.beq (Int.toNat v54) 1) then
 bif ((!v72) == v90) then
 some false
 else
 L73_1 c84 d86v2 c93 c108 c23 d88v2 c94 d87v1 c95 d92v1 c112 d97v0 d92v2 d86v1 d88v1 d87v2 d92v3 d97v1 d92v0 N q1_3 n1 v46 v47 v48 v49 v50 v51 v52 v53 (iadd .i64 v54 (1 : Int)) v55 v56 v57 v58 v59 v60 v61 v62 v63 v64 v65 v66 v67 v68 v69 v70 v71 v72 v73 v74 v75 v76 v77 v78 v79 v80 v81 v82 v83 v84 v85 v86 v87 v88 v89 v90
 else none
 else none
 else none
 else none
 else none
 else none
 else
 bif (Nat.beq (Int.toNat v54) 1) then
 bif ((!v72) == v90) then
 some false
 else
 bif ((decide ((0 : Int) ≤ v54)) && (decide (v54 < (2 : Int)))) then
 bif (Nat.beq (Int.toNat v54) 0) then
 match c108 v68 with
 | none => none
 | some r145 =>
 bif (decide ((0 + ((List.length r145) * 1)) ≤ (List.length r145))) then
 match c23 (List.take (List.length r145) (List.drop 0 r145)) v77 with
 | none => none
 | some r146 =>
 bif (!r146) then
 some false
 else
 match c108 v68 with
 | none => none
 | some r147 =>
 bif (decide ((0 + ((List.length r147) * 1)) ≤ (List.length r147))) then
 bif ((((List.length (List.take (List.length r147) (List.drop 0 r147))) : Nat) : Int) != (((List.length v77) : Nat) : Int)) then
 some false
 else
 bif (v69 != v78) then
 some false
 else
 bif (v70 != v79) then
 some false
 else
 bif (v71 != v80) then
 some false
 else
 bif ((decide ((0 : Int) ≤ v54)) && (decide (v54 < (2 : Int)))) then
 bif (Nat.beq (Int.toNat v54) 0) then
 bif ((!v72) == v81) then
 some false
 else
 L73_1 c84 d86v2 c93 c108 c23 d88v2 c94 d87v1 c95 d92v1 c112 d97v0 d92v2 d86v1 d88v1 d87v2 d92v3 d97v1 d92v0 N q1_3 n1 v46 v47 v48 v49 v50 v51 v52 v53 (iadd .i64 v54 (1 : Int)) v55 v56 v57 v58 v59 v60 v61 v62 v63 v64 v65 v66 v67 v68 v69 v70 v71 v72 v73 v74 v75 v76 v77 v78 v79 v80 v81 v82 v83 v84 v85 v86 v87 v88 v89 v90
 else
 bif (Nat.beq (Int.toNat v54) 1) then
 bif ((!v72) == v90) then
 some false
 else
 L73_1 c84 d86v2 c93 c108 c23 d88v2 c94 d87v1 c95 d92v1 c112 d97v0 d92v2 d86v1 d88v1 d87v2 d92v3 d97v1 d92v0 N q1_3 n1 v46 v47 v48 v49 v50 v51 v52 v53 (iadd .i64 v54 (1 : Int)) v55 v56 v57 v58 v59 v60 v61 v62 v63 v64 v65 v66 v67 v68 v69 v70 v71 v72 v73 v74 v75 v76 v77 v78 v79 v80 v81 v82 v83 v84 v85 v86 v87 v88 v89 v90
 else none
 else none
 else none
 else none
 else
 bif (Nat.beq (Int.toNat v54) 1) then
 match c108 v68 with
 | none => none
 | some r148 =>
 bif (decide ((0 + ((List.length r148) * 1)) ≤ (List.length r148))) then
 match c23 (List.take (List.length r148) (List.drop 0 r148)) v86 with
 | none => none
 | some r149 =>
 bif (!r149) then
 some false
 else
 match c108 v68 with
 | none => none
 | some r150 =>
 bif (decide ((0 + ((List.length r150) * 1)) ≤ (List.length r150))) then
 bif ((((List.length (List.take (List.length r150) (List.drop 0 r150))) : Nat) : Int) != (((List.length v86) : Nat) : Int)) then
 some false
 else
 bif (v69 != v87) then
 some false
 else
 bif (v70 != v88) then
 some false
 else
 bif (v71 != v89) then
 some false
 else
 bif ((decide ((0 : Int) ≤ v54)) && (decide (v54 < (2 : Int)))) then
 bif (Nat.beq (Int.toNat v54) 0) then
 bif ((!v72) == v81) then
 some false
 else
 L73_1 c84 d86v2 c93 c108 c23 d88v2 c94 d87v1 c95 d92v1 c112 d97v0 d92v2 d86v1 d88v1 d87v2 d92v3 d97v1 d92v0 N q1_3 n1 v46 v47 v48 v49 v50 v51 v52 v53 (iadd .i64 v54 (1 : Int)) v55 v56 v57 v58 v59 v60 v61 v62 v63 v64 v65 v66 v67 v68 v69 v70 v71 v72 v73 v74 v75 v76 v77 v78 v79 v80 v81 v82 v83 v84 v85 v86 v87 v88 v89 v90
 else
 bif (Nat.beq (Int.toNat v54) 1) then
 bif ((!v72) == v90) then
 some false
 else
 L73_1 c84 d86v2 c93 c108 c23 d88v2 c94 d87v1 c95 d92v1 c112 d97v0 d92v2 d86v1 d88v1 d87v2 d92v3 d97v1 d92v0 N q1_3 n1 v46 v47 v48 v49 v50 v51 v52 v53 (iadd .i64 v54 (1 : Int)) v55 v56 v57 v58 v59 v60 v61 v62 v63 v64 v65 v66 v67 v68 v69 v70 v71 v72 v73 v74 v75 v76 v77 v78 v79 v80 v81 v82 v83 v84 v85 v86 v87 v88 v89 v90
 else none
 else none
 else none
 else none
 else none
 else none
 else none
 else none
 else none
 else none
 else none
 else none
 else none
 else none
 else
 q1_3 v46 v47 v48 v49 v50 v55 v56 v57 v58 v59 v60 v61 v62 v63 v64 v65 v66 v67 v68 v69 v70 v71 v72 v73 v74 v75 v76 v77 v78 v79 v80 v81 v82 v83 v84 v85 v86 v87 v88 v89 v90
abbrev K73 : Type := Nat → Nat → List (Int × Bool × Bool × Int × Int × Int × (List Int)) → Int → Int → List Int → Int → Int → Int → List Int → Int → Int → Int → Bool → List Int → Int → Int → Int → List Int → Int → Int → Int → Bool → List Int → Int → Int → Int → List Int → Int → Int → Int → Bool → List Int → Int → Int → Int → List Int → Int → Int → Int → Bool → Option Bool
def S73_110 (c84 : D84) (d86v2 : D86v2) (c93 : D93) (c108 : D108) (c23 : D23) (d88v2 : D88v2) (c94 : D94) (d87v1 : D87v1) (c95 : D95) (d92v1 : D92v1) (c112 : D112) (d97v0 : D97v0) (d92v2 : D92v2) (d86v1 : D86v1) (d88v1 : D88v1) (d87v2 : D87v2) (d92v3 : D92v3) (d97v1 : D97v1) (d92v0 : D92v0) (N : Nat) (KK0 : K73) (v1 : Nat) (v2 : Nat) (v3 : List (Int × Bool × Bool × Int × Int × Int × (List Int))) (v4 : Int) (v5 : Int) (v6 : List Int) (v7 : Int) (v8 : Int) (v9 : Int) (v10 : List Int) (v11 : Int) (v12 : Int) (v13 : Int) (v14 : Bool) (v15 : List Int) (v16 : Int) (v17 : Int) (v18 : Int) (v19 : List Int) (v20 : Int) (v21 : Int) (v22 : Int) (v23 : Bool) (v24 : List Int) (v25 : Int) (v26 : Int) (v27 : Int) (v28 : List Int) (v29 : Int) (v30 : Int) (v31 : Int) (v32 : Bool) (v33 : List Int) (v34 : Int) (v35 : Int) (v36 : Int) (v37 : List Int) (v38 : Int) (v39 : Int) (v40 : Int) (v41 : Bool) (x42 : Int × Bool × Bool × Int × Int × Int × (List Int)) : Option Bool :=
 bif (decide ((1 : Int) < ((v1 : Nat) : Int))) then
 match d86v2 x42.2.2.2.1 x42.2.2.2.2.2.2 v15 v16 v17 v18 v19 v20 v21 v22 v23 with
 | none => none
 | some r44 =>
 match c93 (v33, (v34, (v35, (v36, (v37, (v38, (v39, (v40, v41)))))))) x42.2.2.2.1 x42.2.2.2.2.2.2 with
 | none => none
 | some r45 =>
 bif (r44.1.1 != r45.2) then
 some false
 else
 L73_1 c84 d86v2 c93 c108 c23 d88v2 c94 d87v1 c95 d92v1 c112 d97v0 d92v2 d86v1 d88v1 d87v2 d92v3 d97v1 d92v0 N KK0 N v1 v2 v3 v4 v5 v1 v2 ((v1 : Nat) : Int) (0 : Int) v6 v7 v8 v9 v10 v11 v12 v13 v14 (t33 r44.2.1).1 (t33 r44.2.1).2.1 (t33 r44.2.1).2.2.1 (t33 r44.2.1).2.2.2.1 (t33 r44.2.1).2.2.2.2.1 (t33 r44.2.1).2.2.2.2.2.1 (t33 r44.2.1).2.2.2.2.2.2.1 (t33 r44.2.1).2.2.2.2.2.2.2.1 (t33 r44.2.1).2.2.2.2.2.2.2.2.1 v24 v25 v26 v27 v28 v29 v30 v31 v32 r45.1.1 r45.1.2.1 r45.1.2.2.1 r45.1.2.2.2.1 r45.1.2.2.2.2.1 r45.1.2.2.2.2.2.1 r45.1.2.2.2.2.2.2.1 r45.1.2.2.2.2.2.2.2.1 r45.1.2.2.2.2.2.2.2.2
 else none
def S73_111 (c84 : D84) (d86v2 : D86v2) (c93 : D93) (c108 : D108) (c23 : D23) (d88v2 : D88v2) (c94 : D94) (d87v1 : D87v1) (c95 : D95) (d92v1 : D92v1) (c112 : D112) (d97v0 : D97v0) (d92v2 : D92v2) (d86v1 : D86v1) (d88v1 : D88v1) (d87v2 : D87v2) (d92v3 : D92v3) (d97v1 : D97v1) (d92v0 : D92v0) (N : Nat) (KK0 : K73) (v1 : Nat) (v2 : Nat) (v3 : List (Int × Bool × Bool × Int × Int × Int × (List Int))) (v4 : Int) (v5 : Int) (v6 : List Int) (v7 : Int) (v8 : Int) (v9 : Int) (v10 : List Int) (v11 : Int) (v12 : Int) (v13 : Int) (v14 : Bool) (v15 : List Int) (v16 : Int) (v17 : Int) (v18 : Int) (v19 : List Int) (v20 : Int) (v21 : Int) (v22 : Int) (v23 : Bool) (v24 : List Int) (v25 : Int) (v26 : Int) (v27 : Int) (v28 : List Int) (v29 : Int) (v30 : Int) (v31 : Int) (v32 : Bool) (v33 : List Int) (v34 : Int) (v35 : Int) (v36 : Int) (v37 : List Int) (v38 : Int) (v39 : Int) (v40 : Int) (v41 : Bool) (x42 : Int × Bool × Bool × Int × Int × Int × (List Int)) : Option Bool :=
 bif (decide ((1 : Int) < ((v1 : Nat) : Int))) then
 match d88v2 x42.2.2.2.1 x42.2.2.2.2.2.1 v15 v16 v17 v18 v19 v20 v21 v22 v23 with
 | none => none
 | some r192 =>
 match c94 (v33, (v34, (v35, (v36, (v37, (v38, (v39, (v40, v41)))))))) x42.2.2.2.1 x42.2.2.2.2.2.1 with
 | none => none
 | some r193 =>
 match c23 r192.1.1.1 r193.2.1 with
 | none => none
 | some r194 =>
 bif (!r194) then
 some false
 else
 bif (r192.1.1.2.1 != r193.2.2) then
 some false
 else
 L73_1 c84 d86v2 c93 c108 c23 d88v2 c94 d87v1 c95 d92v1 c112 d97v0 d92v2 d86v1 d88v1 d87v2 d92v3 d97v1 d92v0 N KK0 N v1 v2 v3 v4 v5 v1 v2 ((v1 : Nat) : Int) (0 : Int) v6 v7 v8 v9 v10 v11 v12 v13 v14 (t33 r192.2.1).1 (t33 r192.2.1).2.1 (t33 r192.2.1).2.2.1 (t33 r192.2.1).2.2.2.1 (t33 r192.2.1).2.2.2.2.1 (t33 r192.2.1).2.2.2.2.2.1 (t33 r192.2.1).2.2.2.2.2.2.1 (t33 r192.2.1).2.2.2.2.2.2.2.1 (t33 r192.2.1).2.2.2.2.2.2.2.2.1 v24 v25 v26 v27 v28 v29 v30 v31 v32 r193.1.1 r193.1.2.1 r193.1.2.2.1 r193.1.2.2.2.1 r193.1.2.2.2.2.1 r193.1.2.2.2.2.2.1 r193.1.2.2.2.2.2.2.1 r193.1.2.2.2.2.2.2.2.1 r193.1.2.2.2.2.2.2.2.2
 else none
def S73_112 (c84 : D84) (d86v2 : D86v2) (c93 : D93) (c108 : D108) (c23 : D23) (d88v2 : D88v2) (c94 : D94) (d87v1 : D87v1) (c95 : D95) (d92v1 : D92v1) (c112 : D112) (d97v0 : D97v0) (d92v2 : D92v2) (d86v1 : D86v1) (d88v1 : D88v1) (d87v2 : D87v2) (d92v3 : D92v3) (d97v1 : D97v1) (d92v0 : D92v0) (N : Nat) (KK0 : K73) (v1 : Nat) (v2 : Nat) (v3 : List (Int × Bool × Bool × Int × Int × Int × (List Int))) (v4 : Int) (v5 : Int) (v6 : List Int) (v7 : Int) (v8 : Int) (v9 : Int) (v10 : List Int) (v11 : Int) (v12 : Int) (v13 : Int) (v14 : Bool) (v15 : List Int) (v16 : Int) (v17 : Int) (v18 : Int) (v19 : List Int) (v20 : Int) (v21 : Int) (v22 : Int) (v23 : Bool) (v24 : List Int) (v25 : Int) (v26 : Int) (v27 : Int) (v28 : List Int) (v29 : Int) (v30 : Int) (v31 : Int) (v32 : Bool) (v33 : List Int) (v34 : Int) (v35 : Int) (v36 : Int) (v37 : List Int) (v38 : Int) (v39 : Int) (v40 : Int) (v41 : Bool) (x42 : Int × Bool × Bool × Int × Int × Int × (List Int)) : Option Bool :=
 bif (decide ((1 : Int) < ((v1 : Nat) : Int))) then
 match d87v1 x42.2.2.2.1 x42.2.2.2.2.2.1 v15 v16 v17 v18 v19 v20 v21 v22 v23 with
 | none => none
 | some r236 =>
 match c95 (v33, (v34, (v35, (v36, (v37, (v38, (v39, (v40, v41)))))))) x42.2.2.2.1 x42.2.2.2.2.2.1 with
 | none => none
 | some r237 =>
 bif (r236.1.1.1 != r237.2.1) then
 some false
 else
 bif (r236.1.1.2.1 != r237.2.2) then
 some false
 else
 L73_1 c84 d86v2 c93 c108 c23 d88v2 c94 d87v1 c95 d92v1 c112 d97v0 d92v2 d86v1 d88v1 d87v2 d92v3 d97v1 d92v0 N KK0 N v1 v2 v3 v4 v5 v1 v2 ((v1 : Nat) : Int) (0 : Int) v6 v7 v8 v9 v10 v11 v12 v13 v14 (t33 r236.2.1).1 (t33 r236.2.1).2.1 (t33 r236.2.1).2.2.1 (t33 r236.2.1).2.2.2.1 (t33 r236.2.1).2.2.2.2.1 (t33 r236.2.1).2.2.2.2.2.1 (t33 r236.2.1).2.2.2.2.2.2.1 (t33 r236.2.1).2.2.2.2.2.2.2.1 (t33 r236.2.1).2.2.2.2.2.2.2.2.1 v24 v25 v26 v27 v28 v29 v30 v31 v32 r237.1.1 r237.1.2.1 r237.1.2.2.1 r237.1.2.2.2.1 r237.1.2.2.2.2.1 r237.1.2.2.2.2.2.1 r237.1.2.2.2.2.2.2.1 r237.1.2.2.2.2.2.2.2.1 r237.1.2.2.2.2.2.2.2.2
 else none
def S73_113 (c84 : D84) (d86v2 : D86v2) (c93 : D93) (c108 : D108) (c23 : D23) (d88v2 : D88v2) (c94 : D94) (d87v1 : D87v1) (c95 : D95) (d92v1 : D92v1) (c112 : D112) (d97v0 : D97v0) (d92v2 : D92v2) (d86v1 : D86v1) (d88v1 : D88v1) (d87v2 : D87v2) (d92v3 : D92v3) (d97v1 : D97v1) (d92v0 : D92v0) (N : Nat) (KK0 : K73) (v1 : Nat) (v2 : Nat) (v3 : List (Int × Bool × Bool × Int × Int × Int × (List Int))) (v4 : Int) (v5 : Int) (v6 : List Int) (v7 : Int) (v8 : Int) (v9 : Int) (v10 : List Int) (v11 : Int) (v12 : Int) (v13 : Int) (v14 : Bool) (v15 : List Int) (v16 : Int) (v17 : Int) (v18 : Int) (v19 : List Int) (v20 : Int) (v21 : Int) (v22 : Int) (v23 : Bool) (v24 : List Int) (v25 : Int) (v26 : Int) (v27 : Int) (v28 : List Int) (v29 : Int) (v30 : Int) (v31 : Int) (v32 : Bool) (v33 : List Int) (v34 : Int) (v35 : Int) (v36 : Int) (v37 : List Int) (v38 : Int) (v39 : Int) (v40 : Int) (v41 : Bool) (x42 : Int × Bool × Bool × Int × Int × Int × (List Int)) : Option Bool :=
 bif (decide ((1 : Int) < ((v1 : Nat) : Int))) then
 bif (decide ((1 : Int) < ((v1 : Nat) : Int))) then
 match d92v1 x42.2.2.2.1 x42.2.2.2.2.1 x42.2.2.2.2.2.1 v15 v16 v17 v18 v19 v20 v21 v22 v23 with
 | none => none
 | some r279 =>
 match c112 x42.2.2.2.1 with
 | none => none
 | some r280 =>
 bif (!r280) then
 bif (r279.1.1.1 != (0 : Int)) then
 some false
 else
 bif (r279.1.1.2.1 != (1 : Int)) then
 some false
 else
 L73_1 c84 d86v2 c93 c108 c23 d88v2 c94 d87v1 c95 d92v1 c112 d97v0 d92v2 d86v1 d88v1 d87v2 d92v3 d97v1 d92v0 N KK0 N v1 v2 v3 v4 v5 v1 v2 ((v1 : Nat) : Int) (0 : Int) v6 v7 v8 v9 v10 v11 v12 v13 v14 (t33 r279.2.1).1 (t33 r279.2.1).2.1 (t33 r279.2.1).2.2.1 (t33 r279.2.1).2.2.2.1 (t33 r279.2.1).2.2.2.2.1 (t33 r279.2.1).2.2.2.2.2.1 (t33 r279.2.1).2.2.2.2.2.2.1 (t33 r279.2.1).2.2.2.2.2.2.2.1 (t33 r279.2.1).2.2.2.2.2.2.2.2.1 v24 v25 v26 v27 v28 v29 v30 v31 v32 v33 v34 v35 v36 v37 v38 v39 v40 v41
 else
 match c112 x42.2.2.2.2.1 with
 | none => none
 | some r322 =>
 bif (!r322) then
 bif (r279.1.1.1 != (0 : Int)) then
 some false
 else
 bif (r279.1.1.2.1 != (1 : Int)) then
 some false
 else
 L73_1 c84 d86v2 c93 c108 c23 d88v2 c94 d87v1 c95 d92v1 c112 d97v0 d92v2 d86v1 d88v1 d87v2 d92v3 d97v1 d92v0 N KK0 N v1 v2 v3 v4 v5 v1 v2 ((v1 : Nat) : Int) (0 : Int) v6 v7 v8 v9 v10 v11 v12 v13 v14 (t33 r279.2.1).1 (t33 r279.2.1).2.1 (t33 r279.2.1).2.2.1 (t33 r279.2.1).2.2.2.1 (t33 r279.2.1).2.2.2.2.1 (t33 r279.2.1).2.2.2.2.2.1 (t33 r279.2.1).2.2.2.2.2.2.1 (t33 r279.2.1).2.2.2.2.2.2.2.1 (t33 r279.2.1).2.2.2.2.2.2.2.2.1 v24 v25 v26 v27 v28 v29 v30 v31 v32 v33 v34 v35 v36 v37 v38 v39 v40 v41
 else
 bif (decide (x42.2.2.2.2.2.1 < (0 : Int))) then
 bif (r279.1.1.1 != (0 : Int)) then
 some false
 else
 bif (r279.1.1.2.1 != (1 : Int)) then
 some false
 else
 L73_1 c84 d86v2 c93 c108 c23 d88v2 c94 d87v1 c95 d92v1 c112 d97v0 d92v2 d86v1 d88v1 d87v2 d92v3 d97v1 d92v0 N KK0 N v1 v2 v3 v4 v5 v1 v2 ((v1 : Nat) : Int) (0 : Int) v6 v7 v8 v9 v10 v11 v12 v13 v14 (t33 r279.2.1).1 (t33 r279.2.1).2.1 (t33 r279.2.1).2.2.1 (t33 r279.2.1).2.2.2.1 (t33 r279.2.1).2.2.2.2.1 (t33 r279.2.1).2.2.2.2.2.1 (t33 r279.2.1).2.2.2.2.2.2.1 (t33 r279.2.1).2.2.2.2.2.2.2.1 (t33 r279.2.1).2.2.2.2.2.2.2.2.1 v24 v25 v26 v27 v28 v29 v30 v31 v32 v33 v34 v35 v36 v37 v38 v39 v40 v41
 else
 bif (x42.2.2.2.1 == x42.2.2.2.2.1) then
 bif (r279.1.1.1 != (0 : Int)) then
 some false
 else
 bif (r279.1.1.2.1 != (1 : Int)) then
 some false
 else
 L73_1 c84 d86v2 c93 c108 c23 d88v2 c94 d87v1 c95 d92v1 c112 d97v0 d92v2 d86v1 d88v1 d87v2 d92v3 d97v1 d92v0 N KK0 N v1 v2 v3 v4 v5 v1 v2 ((v1 : Nat) : Int) (0 : Int) v6 v7 v8 v9 v10 v11 v12 v13 v14 (t33 r279.2.1).1 (t33 r279.2.1).2.1 (t33 r279.2.1).2.2.1 (t33 r279.2.1).2.2.2.1 (t33 r279.2.1).2.2.2.2.1 (t33 r279.2.1).2.2.2.2.2.1 (t33 r279.2.1).2.2.2.2.2.2.1 (t33 r279.2.1).2.2.2.2.2.2.2.1 (t33 r279.2.1).2.2.2.2.2.2.2.2.1 v24 v25 v26 v27 v28 v29 v30 v31 v32 v33 v34 v35 v36 v37 v38 v39 v40 v41
 else
 bif v41 then
 bif (r279.1.1.1 != (0 : Int)) then
 some false
 else
 bif (r279.1.1.2.1 != (11 : Int)) then
 some false
 else
 L73_1 c84 d86v2 c93 c108 c23 d88v2 c94 d87v1 c95 d92v1 c112 d97v0 d92v2 d86v1 d88v1 d87v2 d92v3 d97v1 d92v0 N KK0 N v1 v2 v3 v4 v5 v1 v2 ((v1 : Nat) : Int) (0 : Int) v6 v7 v8 v9 v10 v11 v12 v13 v14 (t33 r279.2.1).1 (t33 r279.2.1).2.1 (t33 r279.2.1).2.2.1 (t33 r279.2.1).2.2.2.1 (t33 r279.2.1).2.2.2.2.1 (t33 r279.2.1).2.2.2.2.2.1 (t33 r279.2.1).2.2.2.2.2.2.1 (t33 r279.2.1).2.2.2.2.2.2.2.1 (t33 r279.2.1).2.2.2.2.2.2.2.2.1 v24 v25 v26 v27 v28 v29 v30 v31 v32 v33 v34 v35 v36 v37 v38 v39 v40 v41
 else
 bif ((decide ((0 : Int) ≤ x42.2.2.2.1)) && (decide (x42.2.2.2.1 < (2 : Int)))) then
 bif (Nat.beq (Int.toNat x42.2.2.2.1) 0) then
 bif ((decide ((0 : Int) ≤ x42.2.2.2.2.1)) && (decide (x42.2.2.2.2.1 < (2 : Int)))) then
 bif (Nat.beq (Int.toNat x42.2.2.2.2.1) 0) then
 bif (decide ((iadd .i64 (((List.length v33) : Nat) : Int) (if (((List.length v33) : Nat) : Int) < x42.2.2.2.2.2.1 then (((List.length v33) : Nat) : Int) else x42.2.2.2.2.2.1)) > (65536 : Int))) then
 bif (r279.1.1.1 != (0 : Int)) then
 some false
 else
 bif (r279.1.1.2.1 != (12 : Int)) then
 some false
 else
 L73_1 c84 d86v2 c93 c108 c23 d88v2 c94 d87v1 c95 d92v1 c112 d97v0 d92v2 d86v1 d88v1 d87v2 d92v3 d97v1 d92v0 N KK0 N v1 v2 v3 v4 v5 v1 v2 ((v1 : Nat) : Int) (0 : Int) v6 v7 v8 v9 v10 v11 v12 v13 v14 (t33 r279.2.1).1 (t33 r279.2.1).2.1 (t33 r279.2.1).2.2.1 (t33 r279.2.1).2.2.2.1 (t33 r279.2.1).2.2.2.2.1 (t33 r279.2.1).2.2.2.2.2.1 (t33 r279.2.1).2.2.2.2.2.2.1 (t33 r279.2.1).2.2.2.2.2.2.2.1 (t33 r279.2.1).2.2.2.2.2.2.2.2.1 v24 v25 v26 v27 v28 v29 v30 v31 v32 v33 v34 v35 v36 v37 v38 v39 v40 v41
 else
 match c94 (v33, (v34, (v35, (v36, (v37, (v38, (v39, (v40, v41)))))))) x42.2.2.2.1 x42.2.2.2.2.2.1 with
 | none => none
 | some r528 =>
 match c93 (r528.1.1, (r528.1.2.1, (r528.1.2.2.1, (r528.1.2.2.2.1, (r528.1.2.2.2.2.1, (r528.1.2.2.2.2.2.1, (r528.1.2.2.2.2.2.2.1, (r528.1.2.2.2.2.2.2.2.1, r528.1.2.2.2.2.2.2.2.2)))))))) x42.2.2.2.2.1 r528.2.1 with
 | none => none
 | some r529 =>
 bif (r279.1.1.1 != (((List.length r528.2.1) : Nat) : Int)) then
 some false
 else
 bif (r279.1.1.2.1 != (0 : Int)) then
 some false
 else
 L73_1 c84 d86v2 c93 c108 c23 d88v2 c94 d87v1 c95 d92v1 c112 d97v0 d92v2 d86v1 d88v1 d87v2 d92v3 d97v1 d92v0 N KK0 N v1 v2 v3 v4 v5 v1 v2 ((v1 : Nat) : Int) (0 : Int) v6 v7 v8 v9 v10 v11 v12 v13 v14 (t33 r279.2.1).1 (t33 r279.2.1).2.1 (t33 r279.2.1).2.2.1 (t33 r279.2.1).2.2.2.1 (t33 r279.2.1).2.2.2.2.1 (t33 r279.2.1).2.2.2.2.2.1 (t33 r279.2.1).2.2.2.2.2.2.1 (t33 r279.2.1).2.2.2.2.2.2.2.1 (t33 r279.2.1).2.2.2.2.2.2.2.2.1 v24 v25 v26 v27 v28 v29 v30 v31 v32 r529.1.1 r529.1.2.1 r529.1.2.2.1 r529.1.2.2.2.1 r529.1.2.2.2.2.1 r529.1.2.2.2.2.2.1 r529.1.2.2.2.2.2.2.1 r529.1.2.2.2.2.2.2.2.1 r529.1.2.2.2.2.2.2.2.2
 else
 bif (Nat.beq (Int.toNat x42.2.2.2.2.1) 1) then
 bif (decide ((iadd .i64 (((List.length v37) : Nat) : Int) (if (((List.length v33) : Nat) : Int) < x42.2.2.2.2.2.1 then (((List.length v33) : Nat) : Int) else x42.2.2.2.2.2.1)) > (65536 : Int))) then
 bif (r279.1.1.1 != (0 : Int)) then
 some false
 else
 bif (r279.1.1.2.1 != (12 : Int)) then
 some false
 else
 L73_1 c84 d86v2 c93 c108 c23 d88v2 c94 d87v1 c95 d92v1 c112 d97v0 d92v2 d86v1 d88v1 d87v2 d92v3 d97v1 d92v0 N KK0 N v1 v2 v3 v4 v5 v1 v2 ((v1 : Nat) : Int) (0 : Int) v6 v7 v8 v9 v10 v11 v12 v13 v14 (t33 r279.2.1).1 (t33 r279.2.1).2.1 (t33 r279.2.1).2.2.1 (t33 r279.2.1).2.2.2.1 (t33 r279.2.1).2.2.2.2.1 (t33 r279.2.1).2.2.2.2.2.1 (t33 r279.2.1).2.2.2.2.2.2.1 (t33 r279.2.1).2.2.2.2.2.2.2.1 (t33 r279.2.1).2.2.2.2.2.2.2.2.1 v24 v25 v26 v27 v28 v29 v30 v31 v32 v33 v34 v35 v36 v37 v38 v39 v40 v41
 else
 match c94 (v33, (v34, (v35, (v36, (v37, (v38, (v39, (v40, v41)))))))) x42.2.2.2.1 x42.2.2.2.2.2.1 with
 | none => none
 | some r612 =>
 match c93 (r612.1.1, (r612.1.2.1, (r612.1.2.2.1, (r612.1.2.2.2.1, (r612.1.2.2.2.2.1, (r612.1.2.2.2.2.2.1, (r612.1.2.2.2.2.2.2.1, (r612.1.2.2.2.2.2.2.2.1, r612.1.2.2.2.2.2.2.2.2)))))))) x42.2.2.2.2.1 r612.2.1 with
 | none => none
 | some r613 =>
 bif (r279.1.1.1 != (((List.length r612.2.1) : Nat) : Int)) then
 some false
 else
 bif (r279.1.1.2.1 != (0 : Int)) then
 some false
 else
 L73_1 c84 d86v2 c93 c108 c23 d88v2 c94 d87v1 c95 d92v1 c112 d97v0 d92v2 d86v1 d88v1 d87v2 d92v3 d97v1 d92v0 N KK0 N v1 v2 v3 v4 v5 v1 v2 ((v1 : Nat) : Int) (0 : Int) v6 v7 v8 v9 v10 v11 v12 v13 v14 (t33 r279.2.1).1 (t33 r279.2.1).2.1 (t33 r279.2.1).2.2.1 (t33 r279.2.1).2.2.2.1 (t33 r279.2.1).2.2.2.2.1 (t33 r279.2.1).2.2.2.2.2.1 (t33 r279.2.1).2.2.2.2.2.2.1 (t33 r279.2.1).2.2.2.2.2.2.2.1 (t33 r279.2.1).2.2.2.2.2.2.2.2.1 v24 v25 v26 v27 v28 v29 v30 v31 v32 r613.1.1 r613.1.2.1 r613.1.2.2.1 r613.1.2.2.2.1 r613.1.2.2.2.2.1 r613.1.2.2.2.2.2.1 r613.1.2.2.2.2.2.2.1 r613.1.2.2.2.2.2.2.2.1 r613.1.2.2.2.2.2.2.2.2
 else none
 else none
 else
 bif (Nat.beq (Int.toNat x42.2.2.2.1) 1) then
 bif ((decide ((0 : Int) ≤ x42.2.2.2.2.1)) && (decide (x42.2.2.2.2.1 < (2 : Int)))) then
 bif (Nat.beq (Int.toNat x42.2.2.2.2.1) 0) then
 bif (decide ((iadd .i64 (((List.length v33) : Nat) : Int) (if (((List.length v37) : Nat) : Int) < x42.2.2.2.2.2.1 then (((List.length v37) : Nat) : Int) else x42.2.2.2.2.2.1)) > (65536 : Int))) then
 bif (r279.1.1.1 != (0 : Int)) then
 some false
 else
 bif (r279.1.1.2.1 != (12 : Int)) then
 some false
 else
 L73_1 c84 d86v2 c93 c108 c23 d88v2 c94 d87v1 c95 d92v1 c112 d97v0 d92v2 d86v1 d88v1 d87v2 d92v3 d97v1 d92v0 N KK0 N v1 v2 v3 v4 v5 v1 v2 ((v1 : Nat) : Int) (0 : Int) v6 v7 v8 v9 v10 v11 v12 v13 v14 (t33 r279.2.1).1 (t33 r279.2.1).2.1 (t33 r279.2.1).2.2.1 (t33 r279.2.1).2.2.2.1 (t33 r279.2.1).2.2.2.2.1 (t33 r279.2.1).2.2.2.2.2.1 (t33 r279.2.1).2.2.2.2.2.2.1 (t33 r279.2.1).2.2.2.2.2.2.2.1 (t33 r279.2.1).2.2.2.2.2.2.2.2.1 v24 v25 v26 v27 v28 v29 v30 v31 v32 v33 v34 v35 v36 v37 v38 v39 v40 v41
 else
 match c94 (v33, (v34, (v35, (v36, (v37, (v38, (v39, (v40, v41)))))))) x42.2.2.2.1 x42.2.2.2.2.2.1 with
 | none => none
 | some r696 =>
 match c93 (r696.1.1, (r696.1.2.1, (r696.1.2.2.1, (r696.1.2.2.2.1, (r696.1.2.2.2.2.1, (r696.1.2.2.2.2.2.1, (r696.1.2.2.2.2.2.2.1, (r696.1.2.2.2.2.2.2.2.1, r696.1.2.2.2.2.2.2.2.2)))))))) x42.2.2.2.2.1 r696.2.1 with
 | none => none
 | some r697 =>
 bif (r279.1.1.1 != (((List.length r696.2.1) : Nat) : Int)) then
 some false
 else
 bif (r279.1.1.2.1 != (0 : Int)) then
 some false
 else
 L73_1 c84 d86v2 c93 c108 c23 d88v2 c94 d87v1 c95 d92v1 c112 d97v0 d92v2 d86v1 d88v1 d87v2 d92v3 d97v1 d92v0 N KK0 N v1 v2 v3 v4 v5 v1 v2 ((v1 : Nat) : Int) (0 : Int) v6 v7 v8 v9 v10 v11 v12 v13 v14 (t33 r279.2.1).1 (t33 r279.2.1).2.1 (t33 r279.2.1).2.2.1 (t33 r279.2.1).2.2.2.1 (t33 r279.2.1).2.2.2.2.1 (t33 r279.2.1).2.2.2.2.2.1 (t33 r279.2.1).2.2.2.2.2.2.1 (t33 r279.2.1).2.2.2.2.2.2.2.1 (t33 r279.2.1).2.2.2.2.2.2.2.2.1 v24 v25 v26 v27 v28 v29 v30 v31 v32 r697.1.1 r697.1.2.1 r697.1.2.2.1 r697.1.2.2.2.1 r697.1.2.2.2.2.1 r697.1.2.2.2.2.2.1 r697.1.2.2.2.2.2.2.1 r697.1.2.2.2.2.2.2.2.1 r697.1.2.2.2.2.2.2.2.2
 else
 bif (Nat.beq (Int.toNat x42.2.2.2.2.1) 1) then
 bif (decide ((iadd .i64 (((List.length v37) : Nat) : Int) (if (((List.length v37) : Nat) : Int) < x42.2.2.2.2.2.1 then (((List.length v37) : Nat) : Int) else x42.2.2.2.2.2.1)) > (65536 : Int))) then
 bif (r279.1.1.1 != (0 : Int)) then
 some false
 else
 bif (r279.1.1.2.1 != (12 : Int)) then
 some false
 else
 L73_1 c84 d86v2 c93 c108 c23 d88v2 c94 d87v1 c95 d92v1 c112 d97v0 d92v2 d86v1 d88v1 d87v2 d92v3 d97v1 d92v0 N KK0 N v1 v2 v3 v4 v5 v1 v2 ((v1 : Nat) : Int) (0 : Int) v6 v7 v8 v9 v10 v11 v12 v13 v14 (t33 r279.2.1).1 (t33 r279.2.1).2.1 (t33 r279.2.1).2.2.1 (t33 r279.2.1).2.2.2.1 (t33 r279.2.1).2.2.2.2.1 (t33 r279.2.1).2.2.2.2.2.1 (t33 r279.2.1).2.2.2.2.2.2.1 (t33 r279.2.1).2.2.2.2.2.2.2.1 (t33 r279.2.1).2.2.2.2.2.2.2.2.1 v24 v25 v26 v27 v28 v29 v30 v31 v32 v33 v34 v35 v36 v37 v38 v39 v40 v41
 else
 match c94 (v33, (v34, (v35, (v36, (v37, (v38, (v39, (v40, v41)))))))) x42.2.2.2.1 x42.2.2.2.2.2.1 with
 | none => none
 | some r780 =>
 match c93 (r780.1.1, (r780.1.2.1, (r780.1.2.2.1, (r780.1.2.2.2.1, (r780.1.2.2.2.2.1, (r780.1.2.2.2.2.2.1, (r780.1.2.2.2.2.2.2.1, (r780.1.2.2.2.2.2.2.2.1, r780.1.2.2.2.2.2.2.2.2)))))))) x42.2.2.2.2.1 r780.2.1 with
 | none => none
 | some r781 =>
 bif (r279.1.1.1 != (((List.length r780.2.1) : Nat) : Int)) then
 some false
 else
 bif (r279.1.1.2.1 != (0 : Int)) then
 some false
 else
 L73_1 c84 d86v2 c93 c108 c23 d88v2 c94 d87v1 c95 d92v1 c112 d97v0 d92v2 d86v1 d88v1 d87v2 d92v3 d97v1 d92v0 N KK0 N v1 v2 v3 v4 v5 v1 v2 ((v1 : Nat) : Int) (0 : Int) v6 v7 v8 v9 v10 v11 v12 v13 v14 (t33 r279.2.1).1 (t33 r279.2.1).2.1 (t33 r279.2.1).2.2.1 (t33 r279.2.1).2.2.2.1 (t33 r279.2.1).2.2.2.2.1 (t33 r279.2.1).2.2.2.2.2.1 (t33 r279.2.1).2.2.2.2.2.2.1 (t33 r279.2.1).2.2.2.2.2.2.2.1 (t33 r279.2.1).2.2.2.2.2.2.2.2.1 v24 v25 v26 v27 v28 v29 v30 v31 v32 r781.1.1 r781.1.2.1 r781.1.2.2.1 r781.1.2.2.2.1 r781.1.2.2.2.2.1 r781.1.2.2.2.2.2.1 r781.1.2.2.2.2.2.2.1 r781.1.2.2.2.2.2.2.2.1 r781.1.2.2.2.2.2.2.2.2
 else none
 else none
 else none
 else none
 else none
 else none
def S73_114 (c84 : D84) (d86v2 : D86v2) (c93 : D93) (c108 : D108) (c23 : D23) (d88v2 : D88v2) (c94 : D94) (d87v1 : D87v1) (c95 : D95) (d92v1 : D92v1) (c112 : D112) (d97v0 : D97v0) (d92v2 : D92v2) (d86v1 : D86v1) (d88v1 : D88v1) (d87v2 : D87v2) (d92v3 : D92v3) (d97v1 : D97v1) (d92v0 : D92v0) (N : Nat) (KK0 : K73) (v1 : Nat) (v2 : Nat) (v3 : List (Int × Bool × Bool × Int × Int × Int × (List Int))) (v4 : Int) (v5 : Int) (v6 : List Int) (v7 : Int) (v8 : Int) (v9 : Int) (v10 : List Int) (v11 : Int) (v12 : Int) (v13 : Int) (v14 : Bool) (v15 : List Int) (v16 : Int) (v17 : Int) (v18 : Int) (v19 : List Int) (v20 : Int) (v21 : Int) (v22 : Int) (v23 : Bool) (v24 : List Int) (v25 : Int) (v26 : Int) (v27 : Int) (v28 : List Int) (v29 : Int) (v30 : Int) (v31 : Int) (v32 : Bool) (v33 : List Int) (v34 : Int) (v35 : Int) (v36 : Int) (v37 : List Int) (v38 : Int) (v39 : Int) (v40 : Int) (v41 : Bool) (x42 : Int × Bool × Bool × Int × Int × Int × (List Int)) : Option Bool :=
 bif (decide ((1 : Int) < ((v1 : Nat) : Int))) then
 match d97v0 v15 v16 v17 v18 v19 v20 v21 v22 v23 with
 | none => none
 | some r823 =>
 L73_1 c84 d86v2 c93 c108 c23 d88v2 c94 d87v1 c95 d92v1 c112 d97v0 d92v2 d86v1 d88v1 d87v2 d92v3 d97v1 d92v0 N KK0 N v1 v2 v3 v4 v5 v1 v2 ((v1 : Nat) : Int) (0 : Int) v6 v7 v8 v9 v10 v11 v12 v13 v14 (t33 r823.2.1).1 (t33 r823.2.1).2.1 (t33 r823.2.1).2.2.1 (t33 r823.2.1).2.2.2.1 (t33 r823.2.1).2.2.2.2.1 (t33 r823.2.1).2.2.2.2.2.1 (t33 r823.2.1).2.2.2.2.2.2.1 (t33 r823.2.1).2.2.2.2.2.2.2.1 (t33 r823.2.1).2.2.2.2.2.2.2.2.1 v24 v25 v26 v27 v28 v29 v30 v31 v32 v33 v34 v35 v36 v37 v38 v39 v40 true
 else none
def S73_100 (c84 : D84) (d86v2 : D86v2) (c93 : D93) (c108 : D108) (c23 : D23) (d88v2 : D88v2) (c94 : D94) (d87v1 : D87v1) (c95 : D95) (d92v1 : D92v1) (c112 : D112) (d97v0 : D97v0) (d92v2 : D92v2) (d86v1 : D86v1) (d88v1 : D88v1) (d87v2 : D87v2) (d92v3 : D92v3) (d97v1 : D97v1) (d92v0 : D92v0) (N : Nat) (KK0 : K73) (v1 : Nat) (v2 : Nat) (v3 : List (Int × Bool × Bool × Int × Int × Int × (List Int))) (v4 : Int) (v5 : Int) (v6 : List Int) (v7 : Int) (v8 : Int) (v9 : Int) (v10 : List Int) (v11 : Int) (v12 : Int) (v13 : Int) (v14 : Bool) (v15 : List Int) (v16 : Int) (v17 : Int) (v18 : Int) (v19 : List Int) (v20 : Int) (v21 : Int) (v22 : Int) (v23 : Bool) (v24 : List Int) (v25 : Int) (v26 : Int) (v27 : Int) (v28 : List Int) (v29 : Int) (v30 : Int) (v31 : Int) (v32 : Bool) (v33 : List Int) (v34 : Int) (v35 : Int) (v36 : Int) (v37 : List Int) (v38 : Int) (v39 : Int) (v40 : Int) (v41 : Bool) (x42 : Int × Bool × Bool × Int × Int × Int × (List Int)) : Option Bool :=
 bif (decide ((1 : Int) < ((v1 : Nat) : Int))) then
 match d86v2 x42.2.2.2.1 x42.2.2.2.2.2.2 v15 v16 v17 v18 v19 v20 v21 v22 v23 with
 | none => none
 | some r865 =>
 match c93 (v33, (v34, (v35, (v36, (v37, (v38, (v39, (v40, v41)))))))) x42.2.2.2.1 x42.2.2.2.2.2.2 with
 | none => none
 | some r866 =>
 bif (r865.1.1 != r866.2) then
 some false
 else
 L73_1 c84 d86v2 c93 c108 c23 d88v2 c94 d87v1 c95 d92v1 c112 d97v0 d92v2 d86v1 d88v1 d87v2 d92v3 d97v1 d92v0 N KK0 N v1 v2 v3 v4 v5 v1 v2 ((v1 : Nat) : Int) (0 : Int) v6 v7 v8 v9 v10 v11 v12 v13 v14 (t33 r865.2.1).1 (t33 r865.2.1).2.1 (t33 r865.2.1).2.2.1 (t33 r865.2.1).2.2.2.1 (t33 r865.2.1).2.2.2.2.1 (t33 r865.2.1).2.2.2.2.2.1 (t33 r865.2.1).2.2.2.2.2.2.1 (t33 r865.2.1).2.2.2.2.2.2.2.1 (t33 r865.2.1).2.2.2.2.2.2.2.2.1 v24 v25 v26 v27 v28 v29 v30 v31 v32 r866.1.1 r866.1.2.1 r866.1.2.2.1 r866.1.2.2.2.1 r866.1.2.2.2.2.1 r866.1.2.2.2.2.2.1 r866.1.2.2.2.2.2.2.1 r866.1.2.2.2.2.2.2.2.1 r866.1.2.2.2.2.2.2.2.2
 else none
def S73_101 (c84 : D84) (d86v2 : D86v2) (c93 : D93) (c108 : D108) (c23 : D23) (d88v2 : D88v2) (c94 : D94) (d87v1 : D87v1) (c95 : D95) (d92v1 : D92v1) (c112 : D112) (d97v0 : D97v0) (d92v2 : D92v2) (d86v1 : D86v1) (d88v1 : D88v1) (d87v2 : D87v2) (d92v3 : D92v3) (d97v1 : D97v1) (d92v0 : D92v0) (N : Nat) (KK0 : K73) (v1 : Nat) (v2 : Nat) (v3 : List (Int × Bool × Bool × Int × Int × Int × (List Int))) (v4 : Int) (v5 : Int) (v6 : List Int) (v7 : Int) (v8 : Int) (v9 : Int) (v10 : List Int) (v11 : Int) (v12 : Int) (v13 : Int) (v14 : Bool) (v15 : List Int) (v16 : Int) (v17 : Int) (v18 : Int) (v19 : List Int) (v20 : Int) (v21 : Int) (v22 : Int) (v23 : Bool) (v24 : List Int) (v25 : Int) (v26 : Int) (v27 : Int) (v28 : List Int) (v29 : Int) (v30 : Int) (v31 : Int) (v32 : Bool) (v33 : List Int) (v34 : Int) (v35 : Int) (v36 : Int) (v37 : List Int) (v38 : Int) (v39 : Int) (v40 : Int) (v41 : Bool) (x42 : Int × Bool × Bool × Int × Int × Int × (List Int)) : Option Bool :=
 bif (decide ((1 : Int) < ((v1 : Nat) : Int))) then
 match d88v2 x42.2.2.2.1 x42.2.2.2.2.2.1 v15 v16 v17 v18 v19 v20 v21 v22 v23 with
 | none => none
 | some r908 =>
 match c94 (v33, (v34, (v35, (v36, (v37, (v38, (v39, (v40, v41)))))))) x42.2.2.2.1 x42.2.2.2.2.2.1 with
 | none => none
 | some r909 =>
 match c23 r908.1.1.1 r909.2.1 with
 | none => none
 | some r910 =>
 bif (!r910) then
 some false
 else
 bif (r908.1.1.2.1 != r909.2.2) then
 some false
 else
 L73_1 c84 d86v2 c93 c108 c23 d88v2 c94 d87v1 c95 d92v1 c112 d97v0 d92v2 d86v1 d88v1 d87v2 d92v3 d97v1 d92v0 N KK0 N v1 v2 v3 v4 v5 v1 v2 ((v1 : Nat) : Int) (0 : Int) v6 v7 v8 v9 v10 v11 v12 v13 v14 (t33 r908.2.1).1 (t33 r908.2.1).2.1 (t33 r908.2.1).2.2.1 (t33 r908.2.1).2.2.2.1 (t33 r908.2.1).2.2.2.2.1 (t33 r908.2.1).2.2.2.2.2.1 (t33 r908.2.1).2.2.2.2.2.2.1 (t33 r908.2.1).2.2.2.2.2.2.2.1 (t33 r908.2.1).2.2.2.2.2.2.2.2.1 v24 v25 v26 v27 v28 v29 v30 v31 v32 r909.1.1 r909.1.2.1 r909.1.2.2.1 r909.1.2.2.2.1 r909.1.2.2.2.2.1 r909.1.2.2.2.2.2.1 r909.1.2.2.2.2.2.2.1 r909.1.2.2.2.2.2.2.2.1 r909.1.2.2.2.2.2.2.2.2
 else none
def S73_102 (c84 : D84) (d86v2 : D86v2) (c93 : D93) (c108 : D108) (c23 : D23) (d88v2 : D88v2) (c94 : D94) (d87v1 : D87v1) (c95 : D95) (d92v1 : D92v1) (c112 : D112) (d97v0 : D97v0) (d92v2 : D92v2) (d86v1 : D86v1) (d88v1 : D88v1) (d87v2 : D87v2) (d92v3 : D92v3) (d97v1 : D97v1) (d92v0 : D92v0) (N : Nat) (KK0 : K73) (v1 : Nat) (v2 : Nat) (v3 : List (Int × Bool × Bool × Int × Int × Int × (List Int))) (v4 : Int) (v5 : Int) (v6 : List Int) (v7 : Int) (v8 : Int) (v9 : Int) (v10 : List Int) (v11 : Int) (v12 : Int) (v13 : Int) (v14 : Bool) (v15 : List Int) (v16 : Int) (v17 : Int) (v18 : Int) (v19 : List Int) (v20 : Int) (v21 : Int) (v22 : Int) (v23 : Bool) (v24 : List Int) (v25 : Int) (v26 : Int) (v27 : Int) (v28 : List Int) (v29 : Int) (v30 : Int) (v31 : Int) (v32 : Bool) (v33 : List Int) (v34 : Int) (v35 : Int) (v36 : Int) (v37 : List Int) (v38 : Int) (v39 : Int) (v40 : Int) (v41 : Bool) (x42 : Int × Bool × Bool × Int × Int × Int × (List Int)) : Option Bool :=
 bif (decide ((1 : Int) < ((v1 : Nat) : Int))) then
 match d87v1 x42.2.2.2.1 x42.2.2.2.2.2.1 v15 v16 v17 v18 v19 v20 v21 v22 v23 with
 | none => none
 | some r952 =>
 match c95 (v33, (v34, (v35, (v36, (v37, (v38, (v39, (v40, v41)))))))) x42.2.2.2.1 x42.2.2.2.2.2.1 with
 | none => none
 | some r953 =>
 bif (r952.1.1.1 != r953.2.1) then
 some false
 else
 bif (r952.1.1.2.1 != r953.2.2) then
 some false
 else
 L73_1 c84 d86v2 c93 c108 c23 d88v2 c94 d87v1 c95 d92v1 c112 d97v0 d92v2 d86v1 d88v1 d87v2 d92v3 d97v1 d92v0 N KK0 N v1 v2 v3 v4 v5 v1 v2 ((v1 : Nat) : Int) (0 : Int) v6 v7 v8 v9 v10 v11 v12 v13 v14 (t33 r952.2.1).1 (t33 r952.2.1).2.1 (t33 r952.2.1).2.2.1 (t33 r952.2.1).2.2.2.1 (t33 r952.2.1).2.2.2.2.1 (t33 r952.2.1).2.2.2.2.2.1 (t33 r952.2.1).2.2.2.2.2.2.1 (t33 r952.2.1).2.2.2.2.2.2.2.1 (t33 r952.2.1).2.2.2.2.2.2.2.2.1 v24 v25 v26 v27 v28 v29 v30 v31 v32 r953.1.1 r953.1.2.1 r953.1.2.2.1 r953.1.2.2.2.1 r953.1.2.2.2.2.1 r953.1.2.2.2.2.2.1 r953.1.2.2.2.2.2.2.1 r953.1.2.2.2.2.2.2.2.1 r953.1.2.2.2.2.2.2.2.2
 else none
def S73_103 (c84 : D84) (d86v2 : D86v2) (c93 : D93) (c108 : D108) (c23 : D23) (d88v2 : D88v2) (c94 : D94) (d87v1 : D87v1) (c95 : D95) (d92v1 : D92v1) (c112 : D112) (d97v0 : D97v0) (d92v2 : D92v2) (d86v1 : D86v1) (d88v1 : D88v1) (d87v2 : D87v2) (d92v3 : D92v3) (d97v1 : D97v1) (d92v0 : D92v0) (N : Nat) (KK0 : K73) (v1 : Nat) (v2 : Nat) (v3 : List (Int × Bool × Bool × Int × Int × Int × (List Int))) (v4 : Int) (v5 : Int) (v6 : List Int) (v7 : Int) (v8 : Int) (v9 : Int) (v10 : List Int) (v11 : Int) (v12 : Int) (v13 : Int) (v14 : Bool) (v15 : List Int) (v16 : Int) (v17 : Int) (v18 : Int) (v19 : List Int) (v20 : Int) (v21 : Int) (v22 : Int) (v23 : Bool) (v24 : List Int) (v25 : Int) (v26 : Int) (v27 : Int) (v28 : List Int) (v29 : Int) (v30 : Int) (v31 : Int) (v32 : Bool) (v33 : List Int) (v34 : Int) (v35 : Int) (v36 : Int) (v37 : List Int) (v38 : Int) (v39 : Int) (v40 : Int) (v41 : Bool) (x42 : Int × Bool × Bool × Int × Int × Int × (List Int)) : Option Bool :=
 bif (decide ((1 : Int) < ((v1 : Nat) : Int))) then
 bif (decide ((0 : Int) < ((v1 : Nat) : Int))) then
 match d92v2 x42.2.2.2.1 x42.2.2.2.2.1 x42.2.2.2.2.2.1 v15 v16 v17 v18 v19 v20 v21 v22 v23 v6 v7 v8 v9 v10 v11 v12 v13 v14 with
 | none => none
 | some r995 =>
 match c112 x42.2.2.2.1 with
 | none => none
 | some r996 =>
 bif (!r996) then
 bif (r995.1.1.1 != (0 : Int)) then
 some false
 else
 bif (r995.1.1.2.1 != (1 : Int)) then
 some false
 else
 L73_1 c84 d86v2 c93 c108 c23 d88v2 c94 d87v1 c95 d92v1 c112 d97v0 d92v2 d86v1 d88v1 d87v2 d92v3 d97v1 d92v0 N KK0 N v1 v2 v3 v4 v5 v1 v2 ((v1 : Nat) : Int) (0 : Int) (t33 r995.2.2.1).1 (t33 r995.2.2.1).2.1 (t33 r995.2.2.1).2.2.1 (t33 r995.2.2.1).2.2.2.1 (t33 r995.2.2.1).2.2.2.2.1 (t33 r995.2.2.1).2.2.2.2.2.1 (t33 r995.2.2.1).2.2.2.2.2.2.1 (t33 r995.2.2.1).2.2.2.2.2.2.2.1 (t33 r995.2.2.1).2.2.2.2.2.2.2.2.1 (t33 r995.2.1).1 (t33 r995.2.1).2.1 (t33 r995.2.1).2.2.1 (t33 r995.2.1).2.2.2.1 (t33 r995.2.1).2.2.2.2.1 (t33 r995.2.1).2.2.2.2.2.1 (t33 r995.2.1).2.2.2.2.2.2.1 (t33 r995.2.1).2.2.2.2.2.2.2.1 (t33 r995.2.1).2.2.2.2.2.2.2.2.1 v24 v25 v26 v27 v28 v29 v30 v31 v32 v33 v34 v35 v36 v37 v38 v39 v40 v41
 else
 match c112 x42.2.2.2.2.1 with
 | none => none
 | some r1038 =>
 bif (!r1038) then
 bif (r995.1.1.1 != (0 : Int)) then
 some false
 else
 bif (r995.1.1.2.1 != (1 : Int)) then
 some false
 else
 L73_1 c84 d86v2 c93 c108 c23 d88v2 c94 d87v1 c95 d92v1 c112 d97v0 d92v2 d86v1 d88v1 d87v2 d92v3 d97v1 d92v0 N KK0 N v1 v2 v3 v4 v5 v1 v2 ((v1 : Nat) : Int) (0 : Int) (t33 r995.2.2.1).1 (t33 r995.2.2.1).2.1 (t33 r995.2.2.1).2.2.1 (t33 r995.2.2.1).2.2.2.1 (t33 r995.2.2.1).2.2.2.2.1 (t33 r995.2.2.1).2.2.2.2.2.1 (t33 r995.2.2.1).2.2.2.2.2.2.1 (t33 r995.2.2.1).2.2.2.2.2.2.2.1 (t33 r995.2.2.1).2.2.2.2.2.2.2.2.1 (t33 r995.2.1).1 (t33 r995.2.1).2.1 (t33 r995.2.1).2.2.1 (t33 r995.2.1).2.2.2.1 (t33 r995.2.1).2.2.2.2.1 (t33 r995.2.1).2.2.2.2.2.1 (t33 r995.2.1).2.2.2.2.2.2.1 (t33 r995.2.1).2.2.2.2.2.2.2.1 (t33 r995.2.1).2.2.2.2.2.2.2.2.1 v24 v25 v26 v27 v28 v29 v30 v31 v32 v33 v34 v35 v36 v37 v38 v39 v40 v41
 else
 bif (decide (x42.2.2.2.2.2.1 < (0 : Int))) then
 bif (r995.1.1.1 != (0 : Int)) then
 some false
 else
 bif (r995.1.1.2.1 != (1 : Int)) then
 some false
 else
 L73_1 c84 d86v2 c93 c108 c23 d88v2 c94 d87v1 c95 d92v1 c112 d97v0 d92v2 d86v1 d88v1 d87v2 d92v3 d97v1 d92v0 N KK0 N v1 v2 v3 v4 v5 v1 v2 ((v1 : Nat) : Int) (0 : Int) (t33 r995.2.2.1).1 (t33 r995.2.2.1).2.1 (t33 r995.2.2.1).2.2.1 (t33 r995.2.2.1).2.2.2.1 (t33 r995.2.2.1).2.2.2.2.1 (t33 r995.2.2.1).2.2.2.2.2.1 (t33 r995.2.2.1).2.2.2.2.2.2.1 (t33 r995.2.2.1).2.2.2.2.2.2.2.1 (t33 r995.2.2.1).2.2.2.2.2.2.2.2.1 (t33 r995.2.1).1 (t33 r995.2.1).2.1 (t33 r995.2.1).2.2.1 (t33 r995.2.1).2.2.2.1 (t33 r995.2.1).2.2.2.2.1 (t33 r995.2.1).2.2.2.2.2.1 (t33 r995.2.1).2.2.2.2.2.2.1 (t33 r995.2.1).2.2.2.2.2.2.2.1 (t33 r995.2.1).2.2.2.2.2.2.2.2.1 v24 v25 v26 v27 v28 v29 v30 v31 v32 v33 v34 v35 v36 v37 v38 v39 v40 v41
 else
 bif v32 then
 bif (r995.1.1.1 != (0 : Int)) then
 some false
 else
 bif (r995.1.1.2.1 != (11 : Int)) then
 some false
 else
 L73_1 c84 d86v2 c93 c108 c23 d88v2 c94 d87v1 c95 d92v1 c112 d97v0 d92v2 d86v1 d88v1 d87v2 d92v3 d97v1 d92v0 N KK0 N v1 v2 v3 v4 v5 v1 v2 ((v1 : Nat) : Int) (0 : Int) (t33 r995.2.2.1).1 (t33 r995.2.2.1).2.1 (t33 r995.2.2.1).2.2.1 (t33 r995.2.2.1).2.2.2.1 (t33 r995.2.2.1).2.2.2.2.1 (t33 r995.2.2.1).2.2.2.2.2.1 (t33 r995.2.2.1).2.2.2.2.2.2.1 (t33 r995.2.2.1).2.2.2.2.2.2.2.1 (t33 r995.2.2.1).2.2.2.2.2.2.2.2.1 (t33 r995.2.1).1 (t33 r995.2.1).2.1 (t33 r995.2.1).2.2.1 (t33 r995.2.1).2.2.2.1 (t33 r995.2.1).2.2.2.2.1 (t33 r995.2.1).2.2.2.2.2.1 (t33 r995.2.1).2.2.2.2.2.2.1 (t33 r995.2.1).2.2.2.2.2.2.2.1 (t33 r995.2.1).2.2.2.2.2.2.2.2.1 v24 v25 v26 v27 v28 v29 v30 v31 v32 v33 v34 v35 v36 v37 v38 v39 v40 v41
 else
 bif ((decide ((0 : Int) ≤ x42.2.2.2.1)) && (decide (x42.2.2.2.1 < (2 : Int)))) then
 bif (Nat.beq (Int.toNat x42.2.2.2.1) 0) then
 bif ((decide ((0 : Int) ≤ x42.2.2.2.2.1)) && (decide (x42.2.2.2.2.1 < (2 : Int)))) then
 bif (Nat.beq (Int.toNat x42.2.2.2.2.1) 0) then
 bif (decide ((iadd .i64 (((List.length v24) : Nat) : Int) (if (((List.length v33) : Nat) : Int) < x42.2.2.2.2.2.1 then (((List.length v33) : Nat) : Int) else x42.2.2.2.2.2.1)) > (65536 : Int))) then
 bif (r995.1.1.1 != (0 : Int)) then
 some false
 else
 bif (r995.1.1.2.1 != (12 : Int)) then
 some false
 else
 L73_1 c84 d86v2 c93 c108 c23 d88v2 c94 d87v1 c95 d92v1 c112 d97v0 d92v2 d86v1 d88v1 d87v2 d92v3 d97v1 d92v0 N KK0 N v1 v2 v3 v4 v5 v1 v2 ((v1 : Nat) : Int) (0 : Int) (t33 r995.2.2.1).1 (t33 r995.2.2.1).2.1 (t33 r995.2.2.1).2.2.1 (t33 r995.2.2.1).2.2.2.1 (t33 r995.2.2.1).2.2.2.2.1 (t33 r995.2.2.1).2.2.2.2.2.1 (t33 r995.2.2.1).2.2.2.2.2.2.1 (t33 r995.2.2.1).2.2.2.2.2.2.2.1 (t33 r995.2.2.1).2.2.2.2.2.2.2.2.1 (t33 r995.2.1).1 (t33 r995.2.1).2.1 (t33 r995.2.1).2.2.1 (t33 r995.2.1).2.2.2.1 (t33 r995.2.1).2.2.2.2.1 (t33 r995.2.1).2.2.2.2.2.1 (t33 r995.2.1).2.2.2.2.2.2.1 (t33 r995.2.1).2.2.2.2.2.2.2.1 (t33 r995.2.1).2.2.2.2.2.2.2.2.1 v24 v25 v26 v27 v28 v29 v30 v31 v32 v33 v34 v35 v36 v37 v38 v39 v40 v41
 else
 match c94 (v33, (v34, (v35, (v36, (v37, (v38, (v39, (v40, v41)))))))) x42.2.2.2.1 x42.2.2.2.2.2.1 with
 | none => none
 | some r1203 =>
 match c93 (v24, (v25, (v26, (v27, (v28, (v29, (v30, (v31, v32)))))))) x42.2.2.2.2.1 r1203.2.1 with
 | none => none
 | some r1204 =>
 bif (r995.1.1.1 != (((List.length r1203.2.1) : Nat) : Int)) then
 some false
 else
 bif (r995.1.1.2.1 != (0 : Int)) then
 some false
 else
 L73_1 c84 d86v2 c93 c108 c23 d88v2 c94 d87v1 c95 d92v1 c112 d97v0 d92v2 d86v1 d88v1 d87v2 d92v3 d97v1 d92v0 N KK0 N v1 v2 v3 v4 v5 v1 v2 ((v1 : Nat) : Int) (0 : Int) (t33 r995.2.2.1).1 (t33 r995.2.2.1).2.1 (t33 r995.2.2.1).2.2.1 (t33 r995.2.2.1).2.2.2.1 (t33 r995.2.2.1).2.2.2.2.1 (t33 r995.2.2.1).2.2.2.2.2.1 (t33 r995.2.2.1).2.2.2.2.2.2.1 (t33 r995.2.2.1).2.2.2.2.2.2.2.1 (t33 r995.2.2.1).2.2.2.2.2.2.2.2.1 (t33 r995.2.1).1 (t33 r995.2.1).2.1 (t33 r995.2.1).2.2.1 (t33 r995.2.1).2.2.2.1 (t33 r995.2.1).2.2.2.2.1 (t33 r995.2.1).2.2.2.2.2.1 (t33 r995.2.1).2.2.2.2.2.2.1 (t33 r995.2.1).2.2.2.2.2.2.2.1 (t33 r995.2.1).2.2.2.2.2.2.2.2.1 r1204.1.1 r1204.1.2.1 r1204.1.2.2.1 r1204.1.2.2.2.1 r1204.1.2.2.2.2.1 r1204.1.2.2.2.2.2.1 r1204.1.2.2.2.2.2.2.1 r1204.1.2.2.2.2.2.2.2.1 r1204.1.2.2.2.2.2.2.2.2 r1203.1.1 r1203.1.2.1 r1203.1.2.2.1 r1203.1.2.2.2.1 r1203.1.2.2.2.2.1 r1203.1.2.2.2.2.2.1 r1203.1.2.2.2.2.2.2.1 r1203.1.2.2.2.2.2.2.2.1 r1203.1.2.2.2.2.2.2.2.2
 else
 bif (Nat.beq (Int.toNat x42.2.2.2.2.1) 1) then
 bif (decide ((iadd .i64 (((List.length v28) : Nat) : Int) (if (((List.length v33) : Nat) : Int) < x42.2.2.2.2.2.1 then (((List.length v33) : Nat) : Int) else x42.2.2.2.2.2.1)) > (65536 : Int))) then
 bif (r995.1.1.1 != (0 : Int)) then
 some false
 else
 bif (r995.1.1.2.1 != (12 : Int)) then
 some false
 else
 L73_1 c84 d86v2 c93 c108 c23 d88v2 c94 d87v1 c95 d92v1 c112 d97v0 d92v2 d86v1 d88v1 d87v2 d92v3 d97v1 d92v0 N KK0 N v1 v2 v3 v4 v5 v1 v2 ((v1 : Nat) : Int) (0 : Int) (t33 r995.2.2.1).1 (t33 r995.2.2.1).2.1 (t33 r995.2.2.1).2.2.1 (t33 r995.2.2.1).2.2.2.1 (t33 r995.2.2.1).2.2.2.2.1 (t33 r995.2.2.1).2.2.2.2.2.1 (t33 r995.2.2.1).2.2.2.2.2.2.1 (t33 r995.2.2.1).2.2.2.2.2.2.2.1 (t33 r995.2.2.1).2.2.2.2.2.2.2.2.1 (t33 r995.2.1).1 (t33 r995.2.1).2.1 (t33 r995.2.1).2.2.1 (t33 r995.2.1).2.2.2.1 (t33 r995.2.1).2.2.2.2.1 (t33 r995.2.1).2.2.2.2.2.1 (t33 r995.2.1).2.2.2.2.2.2.1 (t33 r995.2.1).2.2.2.2.2.2.2.1 (t33 r995.2.1).2.2.2.2.2.2.2.2.1 v24 v25 v26 v27 v28 v29 v30 v31 v32 v33 v34 v35 v36 v37 v38 v39 v40 v41
 else
 match c94 (v33, (v34, (v35, (v36, (v37, (v38, (v39, (v40, v41)))))))) x42.2.2.2.1 x42.2.2.2.2.2.1 with
 | none => none
 | some r1287 =>
 match c93 (v24, (v25, (v26, (v27, (v28, (v29, (v30, (v31, v32)))))))) x42.2.2.2.2.1 r1287.2.1 with
 | none => none
 | some r1288 =>
 bif (r995.1.1.1 != (((List.length r1287.2.1) : Nat) : Int)) then
 some false
 else
 bif (r995.1.1.2.1 != (0 : Int)) then
 some false
 else
 L73_1 c84 d86v2 c93 c108 c23 d88v2 c94 d87v1 c95 d92v1 c112 d97v0 d92v2 d86v1 d88v1 d87v2 d92v3 d97v1 d92v0 N KK0 N v1 v2 v3 v4 v5 v1 v2 ((v1 : Nat) : Int) (0 : Int) (t33 r995.2.2.1).1 (t33 r995.2.2.1).2.1 (t33 r995.2.2.1).2.2.1 (t33 r995.2.2.1).2.2.2.1 (t33 r995.2.2.1).2.2.2.2.1 (t33 r995.2.2.1).2.2.2.2.2.1 (t33 r995.2.2.1).2.2.2.2.2.2.1 (t33 r995.2.2.1).2.2.2.2.2.2.2.1 (t33 r995.2.2.1).2.2.2.2.2.2.2.2.1 (t33 r995.2.1).1 (t33 r995.2.1).2.1 (t33 r995.2.1).2.2.1 (t33 r995.2.1).2.2.2.1 (t33 r995.2.1).2.2.2.2.1 (t33 r995.2.1).2.2.2.2.2.1 (t33 r995.2.1).2.2.2.2.2.2.1 (t33 r995.2.1).2.2.2.2.2.2.2.1 (t33 r995.2.1).2.2.2.2.2.2.2.2.1 r1288.1.1 r1288.1.2.1 r1288.1.2.2.1 r1288.1.2.2.2.1 r1288.1.2.2.2.2.1 r1288.1.2.2.2.2.2.1 r1288.1.2.2.2.2.2.2.1 r1288.1.2.2.2.2.2.2.2.1 r1288.1.2.2.2.2.2.2.2.2 r1287.1.1 r1287.1.2.1 r1287.1.2.2.1 r1287.1.2.2.2.1 r1287.1.2.2.2.2.1 r1287.1.2.2.2.2.2.1 r1287.1.2.2.2.2.2.2.1 r1287.1.2.2.2.2.2.2.2.1 r1287.1.2.2.2.2.2.2.2.2
 else none
 else none
 else
 bif (Nat.beq (Int.toNat x42.2.2.2.1) 1) then
 bif ((decide ((0 : Int) ≤ x42.2.2.2.2.1)) && (decide (x42.2.2.2.2.1 < (2 : Int)))) then
 bif (Nat.beq (Int.toNat x42.2.2.2.2.1) 0) then
 bif (decide ((iadd .i64 (((List.length v24) : Nat) : Int) (if (((List.length v37) : Nat) : Int) < x42.2.2.2.2.2.1 then (((List.length v37) : Nat) : Int) else x42.2.2.2.2.2.1)) > (65536 : Int))) then
 bif (r995.1.1.1 != (0 : Int)) then
 some false
 else
 bif (r995.1.1.2.1 != (12 : Int)) then
 some false
 else
 L73_1 c84 d86v2 c93 c108 c23 d88v2 c94 d87v1 c95 d92v1 c112 d97v0 d92v2 d86v1 d88v1 d87v2 d92v3 d97v1 d92v0 N KK0 N v1 v2 v3 v4 v5 v1 v2 ((v1 : Nat) : Int) (0 : Int) (t33 r995.2.2.1).1 (t33 r995.2.2.1).2.1 (t33 r995.2.2.1).2.2.1 (t33 r995.2.2.1).2.2.2.1 (t33 r995.2.2.1).2.2.2.2.1 (t33 r995.2.2.1).2.2.2.2.2.1 (t33 r995.2.2.1).2.2.2.2.2.2.1 (t33 r995.2.2.1).2.2.2.2.2.2.2.1 (t33 r995.2.2.1).2.2.2.2.2.2.2.2.1 (t33 r995.2.1).1 (t33 r995.2.1).2.1 (t33 r995.2.1).2.2.1 (t33 r995.2.1).2.2.2.1 (t33 r995.2.1).2.2.2.2.1 (t33 r995.2.1).2.2.2.2.2.1 (t33 r995.2.1).2.2.2.2.2.2.1 (t33 r995.2.1).2.2.2.2.2.2.2.1 (t33 r995.2.1).2.2.2.2.2.2.2.2.1 v24 v25 v26 v27 v28 v29 v30 v31 v32 v33 v34 v35 v36 v37 v38 v39 v40 v41
 else
 match c94 (v33, (v34, (v35, (v36, (v37, (v38, (v39, (v40, v41)))))))) x42.2.2.2.1 x42.2.2.2.2.2.1 with
 | none => none
 | some r1371 =>
 match c93 (v24, (v25, (v26, (v27, (v28, (v29, (v30, (v31, v32)))))))) x42.2.2.2.2.1 r1371.2.1 with
 | none => none
 | some r1372 =>
 bif (r995.1.1.1 != (((List.length r1371.2.1) : Nat) : Int)) then
 some false
 else
 bif (r995.1.1.2.1 != (0 : Int)) then
 some false
 else
 L73_1 c84 d86v2 c93 c108 c23 d88v2 c94 d87v1 c95 d92v1 c112 d97v0 d92v2 d86v1 d88v1 d87v2 d92v3 d97v1 d92v0 N KK0 N v1 v2 v3 v4 v5 v1 v2 ((v1 : Nat) : Int) (0 : Int) (t33 r995.2.2.1).1 (t33 r995.2.2.1).2.1 (t33 r995.2.2.1).2.2.1 (t33 r995.2.2.1).2.2.2.1 (t33 r995.2.2.1).2.2.2.2.1 (t33 r995.2.2.1).2.2.2.2.2.1 (t33 r995.2.2.1).2.2.2.2.2.2.1 (t33 r995.2.2.1).2.2.2.2.2.2.2.1 (t33 r995.2.2.1).2.2.2.2.2.2.2.2.1 (t33 r995.2.1).1 (t33 r995.2.1).2.1 (t33 r995.2.1).2.2.1 (t33 r995.2.1).2.2.2.1 (t33 r995.2.1).2.2.2.2.1 (t33 r995.2.1).2.2.2.2.2.1 (t33 r995.2.1).2.2.2.2.2.2.1 (t33 r995.2.1).2.2.2.2.2.2.2.1 (t33 r995.2.1).2.2.2.2.2.2.2.2.1 r1372.1.1 r1372.1.2.1 r1372.1.2.2.1 r1372.1.2.2.2.1 r1372.1.2.2.2.2.1 r1372.1.2.2.2.2.2.1 r1372.1.2.2.2.2.2.2.1 r1372.1.2.2.2.2.2.2.2.1 r1372.1.2.2.2.2.2.2.2.2 r1371.1.1 r1371.1.2.1 r1371.1.2.2.1 r1371.1.2.2.2.1 r1371.1.2.2.2.2.1 r1371.1.2.2.2.2.2.1 r1371.1.2.2.2.2.2.2.1 r1371.1.2.2.2.2.2.2.2.1 r1371.1.2.2.2.2.2.2.2.2
 else
 bif (Nat.beq (Int.toNat x42.2.2.2.2.1) 1) then
 bif (decide ((iadd .i64 (((List.length v28) : Nat) : Int) (if (((List.length v37) : Nat) : Int) < x42.2.2.2.2.2.1 then (((List.length v37) : Nat) : Int) else x42.2.2.2.2.2.1)) > (65536 : Int))) then
 bif (r995.1.1.1 != (0 : Int)) then
 some false
 else
 bif (r995.1.1.2.1 != (12 : Int)) then
 some false
 else
 L73_1 c84 d86v2 c93 c108 c23 d88v2 c94 d87v1 c95 d92v1 c112 d97v0 d92v2 d86v1 d88v1 d87v2 d92v3 d97v1 d92v0 N KK0 N v1 v2 v3 v4 v5 v1 v2 ((v1 : Nat) : Int) (0 : Int) (t33 r995.2.2.1).1 (t33 r995.2.2.1).2.1 (t33 r995.2.2.1).2.2.1 (t33 r995.2.2.1).2.2.2.1 (t33 r995.2.2.1).2.2.2.2.1 (t33 r995.2.2.1).2.2.2.2.2.1 (t33 r995.2.2.1).2.2.2.2.2.2.1 (t33 r995.2.2.1).2.2.2.2.2.2.2.1 (t33 r995.2.2.1).2.2.2.2.2.2.2.2.1 (t33 r995.2.1).1 (t33 r995.2.1).2.1 (t33 r995.2.1).2.2.1 (t33 r995.2.1).2.2.2.1 (t33 r995.2.1).2.2.2.2.1 (t33 r995.2.1).2.2.2.2.2.1 (t33 r995.2.1).2.2.2.2.2.2.1 (t33 r995.2.1).2.2.2.2.2.2.2.1 (t33 r995.2.1).2.2.2.2.2.2.2.2.1 v24 v25 v26 v27 v28 v29 v30 v31 v32 v33 v34 v35 v36 v37 v38 v39 v40 v41
 else
 match c94 (v33, (v34, (v35, (v36, (v37, (v38, (v39, (v40, v41)))))))) x42.2.2.2.1 x42.2.2.2.2.2.1 with
 | none => none
 | some r1455 =>
 match c93 (v24, (v25, (v26, (v27, (v28, (v29, (v30, (v31, v32)))))))) x42.2.2.2.2.1 r1455.2.1 with
 | none => none
 | some r1456 =>
 bif (r995.1.1.1 != (((List.length r1455.2.1) : Nat) : Int)) then
 some false
 else
 bif (r995.1.1.2.1 != (0 : Int)) then
 some false
 else
 L73_1 c84 d86v2 c93 c108 c23 d88v2 c94 d87v1 c95 d92v1 c112 d97v0 d92v2 d86v1 d88v1 d87v2 d92v3 d97v1 d92v0 N KK0 N v1 v2 v3 v4 v5 v1 v2 ((v1 : Nat) : Int) (0 : Int) (t33 r995.2.2.1).1 (t33 r995.2.2.1).2.1 (t33 r995.2.2.1).2.2.1 (t33 r995.2.2.1).2.2.2.1 (t33 r995.2.2.1).2.2.2.2.1 (t33 r995.2.2.1).2.2.2.2.2.1 (t33 r995.2.2.1).2.2.2.2.2.2.1 (t33 r995.2.2.1).2.2.2.2.2.2.2.1 (t33 r995.2.2.1).2.2.2.2.2.2.2.2.1 (t33 r995.2.1).1 (t33 r995.2.1).2.1 (t33 r995.2.1).2.2.1 (t33 r995.2.1).2.2.2.1 (t33 r995.2.1).2.2.2.2.1 (t33 r995.2.1).2.2.2.2.2.1 (t33 r995.2.1).2.2.2.2.2.2.1 (t33 r995.2.1).2.2.2.2.2.2.2.1 (t33 r995.2.1).2.2.2.2.2.2.2.2.1 r1456.1.1 r1456.1.2.1 r1456.1.2.2.1 r1456.1.2.2.2.1 r1456.1.2.2.2.2.1 r1456.1.2.2.2.2.2.1 r1456.1.2.2.2.2.2.2.1 r1456.1.2.2.2.2.2.2.2.1 r1456.1.2.2.2.2.2.2.2.2 r1455.1.1 r1455.1.2.1 r1455.1.2.2.1 r1455.1.2.2.2.1 r1455.1.2.2.2.2.1 r1455.1.2.2.2.2.2.1 r1455.1.2.2.2.2.2.2.1 r1455.1.2.2.2.2.2.2.2.1 r1455.1.2.2.2.2.2.2.2.2
 else none
 else none
 else none
 else none
 else none
 else none
def S73_104 (c84 : D84) (d86v2 : D86v2) (c93 : D93) (c108 : D108) (c23 : D23) (d88v2 : D88v2) (c94 : D94) (d87v1 : D87v1) (c95 : D95) (d92v1 : D92v1) (c112 : D112) (d97v0 : D97v0) (d92v2 : D92v2) (d86v1 : D86v1) (d88v1 : D88v1) (d87v2 : D87v2) (d92v3 : D92v3) (d97v1 : D97v1) (d92v0 : D92v0) (N : Nat) (KK0 : K73) (v1 : Nat) (v2 : Nat) (v3 : List (Int × Bool × Bool × Int × Int × Int × (List Int))) (v4 : Int) (v5 : Int) (v6 : List Int) (v7 : Int) (v8 : Int) (v9 : Int) (v10 : List Int) (v11 : Int) (v12 : Int) (v13 : Int) (v14 : Bool) (v15 : List Int) (v16 : Int) (v17 : Int) (v18 : Int) (v19 : List Int) (v20 : Int) (v21 : Int) (v22 : Int) (v23 : Bool) (v24 : List Int) (v25 : Int) (v26 : Int) (v27 : Int) (v28 : List Int) (v29 : Int) (v30 : Int) (v31 : Int) (v32 : Bool) (v33 : List Int) (v34 : Int) (v35 : Int) (v36 : Int) (v37 : List Int) (v38 : Int) (v39 : Int) (v40 : Int) (v41 : Bool) (x42 : Int × Bool × Bool × Int × Int × Int × (List Int)) : Option Bool :=
 bif (decide ((1 : Int) < ((v1 : Nat) : Int))) then
 match d97v0 v15 v16 v17 v18 v19 v20 v21 v22 v23 with
 | none => none
 | some r1498 =>
 L73_1 c84 d86v2 c93 c108 c23 d88v2 c94 d87v1 c95 d92v1 c112 d97v0 d92v2 d86v1 d88v1 d87v2 d92v3 d97v1 d92v0 N KK0 N v1 v2 v3 v4 v5 v1 v2 ((v1 : Nat) : Int) (0 : Int) v6 v7 v8 v9 v10 v11 v12 v13 v14 (t33 r1498.2.1).1 (t33 r1498.2.1).2.1 (t33 r1498.2.1).2.2.1 (t33 r1498.2.1).2.2.2.1 (t33 r1498.2.1).2.2.2.2.1 (t33 r1498.2.1).2.2.2.2.2.1 (t33 r1498.2.1).2.2.2.2.2.2.1 (t33 r1498.2.1).2.2.2.2.2.2.2.1 (t33 r1498.2.1).2.2.2.2.2.2.2.2.1 v24 v25 v26 v27 v28 v29 v30 v31 v32 v33 v34 v35 v36 v37 v38 v39 v40 true
 else none
def S73_010 (c84 : D84) (d86v2 : D86v2) (c93 : D93) (c108 : D108) (c23 : D23) (d88v2 : D88v2) (c94 : D94) (d87v1 : D87v1) (c95 : D95) (d92v1 : D92v1) (c112 : D112) (d97v0 : D97v0) (d92v2 : D92v2) (d86v1 : D86v1) (d88v1 : D88v1) (d87v2 : D87v2) (d92v3 : D92v3) (d97v1 : D97v1) (d92v0 : D92v0) (N : Nat) (KK0 : K73) (v1 : Nat) (v2 : Nat) (v3 : List (Int × Bool × Bool × Int × Int × Int × (List Int))) (v4 : Int) (v5 : Int) (v6 : List Int) (v7 : Int) (v8 : Int) (v9 : Int) (v10 : List Int) (v11 : Int) (v12 : Int) (v13 : Int) (v14 : Bool) (v15 : List Int) (v16 : Int) (v17 : Int) (v18 : Int) (v19 : List Int) (v20 : Int) (v21 : Int) (v22 : Int) (v23 : Bool) (v24 : List Int) (v25 : Int) (v26 : Int) (v27 : Int) (v28 : List Int) (v29 : Int) (v30 : Int) (v31 : Int) (v32 : Bool) (v33 : List Int) (v34 : Int) (v35 : Int) (v36 : Int) (v37 : List Int) (v38 : Int) (v39 : Int) (v40 : Int) (v41 : Bool) (x42 : Int × Bool × Bool × Int × Int × Int × (List Int)) : Option Bool :=
 bif (decide ((0 : Int) < ((v1 : Nat) : Int))) then
 match d86v1 x42.2.2.2.1 x42.2.2.2.2.2.2 v6 v7 v8 v9 v10 v11 v12 v13 v14 with
 | none => none
 | some r1540 =>
 match c93 (v24, (v25, (v26, (v27, (v28, (v29, (v30, (v31, v32)))))))) x42.2.2.2.1 x42.2.2.2.2.2.2 with
 | none => none
 | some r1541 =>
 bif (r1540.1.1 != r1541.2) then
 some false
 else
 L73_1 c84 d86v2 c93 c108 c23 d88v2 c94 d87v1 c95 d92v1 c112 d97v0 d92v2 d86v1 d88v1 d87v2 d92v3 d97v1 d92v0 N KK0 N v1 v2 v3 v4 v5 v1 v2 ((v1 : Nat) : Int) (0 : Int) (t33 r1540.2.1).1 (t33 r1540.2.1).2.1 (t33 r1540.2.1).2.2.1 (t33 r1540.2.1).2.2.2.1 (t33 r1540.2.1).2.2.2.2.1 (t33 r1540.2.1).2.2.2.2.2.1 (t33 r1540.2.1).2.2.2.2.2.2.1 (t33 r1540.2.1).2.2.2.2.2.2.2.1 (t33 r1540.2.1).2.2.2.2.2.2.2.2.1 v15 v16 v17 v18 v19 v20 v21 v22 v23 r1541.1.1 r1541.1.2.1 r1541.1.2.2.1 r1541.1.2.2.2.1 r1541.1.2.2.2.2.1 r1541.1.2.2.2.2.2.1 r1541.1.2.2.2.2.2.2.1 r1541.1.2.2.2.2.2.2.2.1 r1541.1.2.2.2.2.2.2.2.2 v33 v34 v35 v36 v37 v38 v39 v40 v41
 else none
def S73_011 (c84 : D84) (d86v2 : D86v2) (c93 : D93) (c108 : D108) (c23 : D23) (d88v2 : D88v2) (c94 : D94) (d87v1 : D87v1) (c95 : D95) (d92v1 : D92v1) (c112 : D112) (d97v0 : D97v0) (d92v2 : D92v2) (d86v1 : D86v1) (d88v1 : D88v1) (d87v2 : D87v2) (d92v3 : D92v3) (d97v1 : D97v1) (d92v0 : D92v0) (N : Nat) (KK0 : K73) (v1 : Nat) (v2 : Nat) (v3 : List (Int × Bool × Bool × Int × Int × Int × (List Int))) (v4 : Int) (v5 : Int) (v6 : List Int) (v7 : Int) (v8 : Int) (v9 : Int) (v10 : List Int) (v11 : Int) (v12 : Int) (v13 : Int) (v14 : Bool) (v15 : List Int) (v16 : Int) (v17 : Int) (v18 : Int) (v19 : List Int) (v20 : Int) (v21 : Int) (v22 : Int) (v23 : Bool) (v24 : List Int) (v25 : Int) (v26 : Int) (v27 : Int) (v28 : List Int) (v29 : Int) (v30 : Int) (v31 : Int) (v32 : Bool) (v33 : List Int) (v34 : Int) (v35 : Int) (v36 : Int) (v37 : List Int) (v38 : Int) (v39 : Int) (v40 : Int) (v41 : Bool) (x42 : Int × Bool × Bool × Int × Int × Int × (List Int)) : Option Bool :=
 bif (decide ((0 : Int) < ((v1 : Nat) : Int))) then
 match d88v1 x42.2.2.2.1 x42.2.2.2.2.2.1 v6 v7 v8 v9 v10 v11 v12 v13 v14 with
 | none => none
 | some r1583 =>
 match c94 (v24, (v25, (v26, (v27, (v28, (v29, (v30, (v31, v32)))))))) x42.2.2.2.1 x42.2.2.2.2.2.1 with
 | none => none
 | some r1584 =>
 match c23 r1583.1.1.1 r1584.2.1 with
 | none => none
 | some r1585 =>
 bif (!r1585) then
 some false
 else
 bif (r1583.1.1.2.1 != r1584.2.2) then
 some false
 else
 L73_1 c84 d86v2 c93 c108 c23 d88v2 c94 d87v1 c95 d92v1 c112 d97v0 d92v2 d86v1 d88v1 d87v2 d92v3 d97v1 d92v0 N KK0 N v1 v2 v3 v4 v5 v1 v2 ((v1 : Nat) : Int) (0 : Int) (t33 r1583.2.1).1 (t33 r1583.2.1).2.1 (t33 r1583.2.1).2.2.1 (t33 r1583.2.1).2.2.2.1 (t33 r1583.2.1).2.2.2.2.1 (t33 r1583.2.1).2.2.2.2.2.1 (t33 r1583.2.1).2.2.2.2.2.2.1 (t33 r1583.2.1).2.2.2.2.2.2.2.1 (t33 r1583.2.1).2.2.2.2.2.2.2.2.1 v15 v16 v17 v18 v19 v20 v21 v22 v23 r1584.1.1 r1584.1.2.1 r1584.1.2.2.1 r1584.1.2.2.2.1 r1584.1.2.2.2.2.1 r1584.1.2.2.2.2.2.1 r1584.1.2.2.2.2.2.2.1 r1584.1.2.2.2.2.2.2.2.1 r1584.1.2.2.2.2.2.2.2.2 v33 v34 v35 v36 v37 v38 v39 v40 v41
 else none
def S73_012 (c84 : D84) (d86v2 : D86v2) (c93 : D93) (c108 : D108) (c23 : D23) (d88v2 : D88v2) (c94 : D94) (d87v1 : D87v1) (c95 : D95) (d92v1 : D92v1) (c112 : D112) (d97v0 : D97v0) (d92v2 : D92v2) (d86v1 : D86v1) (d88v1 : D88v1) (d87v2 : D87v2) (d92v3 : D92v3) (d97v1 : D97v1) (d92v0 : D92v0) (N : Nat) (KK0 : K73) (v1 : Nat) (v2 : Nat) (v3 : List (Int × Bool × Bool × Int × Int × Int × (List Int))) (v4 : Int) (v5 : Int) (v6 : List Int) (v7 : Int) (v8 : Int) (v9 : Int) (v10 : List Int) (v11 : Int) (v12 : Int) (v13 : Int) (v14 : Bool) (v15 : List Int) (v16 : Int) (v17 : Int) (v18 : Int) (v19 : List Int) (v20 : Int) (v21 : Int) (v22 : Int) (v23 : Bool) (v24 : List Int) (v25 : Int) (v26 : Int) (v27 : Int) (v28 : List Int) (v29 : Int) (v30 : Int) (v31 : Int) (v32 : Bool) (v33 : List Int) (v34 : Int) (v35 : Int) (v36 : Int) (v37 : List Int) (v38 : Int) (v39 : Int) (v40 : Int) (v41 : Bool) (x42 : Int × Bool × Bool × Int × Int × Int × (List Int)) : Option Bool :=
 bif (decide ((0 : Int) < ((v1 : Nat) : Int))) then
 match d87v2 x42.2.2.2.1 x42.2.2.2.2.2.1 v6 v7 v8 v9 v10 v11 v12 v13 v14 with
 | none => none
 | some r1627 =>
 match c95 (v24, (v25, (v26, (v27, (v28, (v29, (v30, (v31, v32)))))))) x42.2.2.2.1 x42.2.2.2.2.2.1 with
 | none => none
 | some r1628 =>
 bif (r1627.1.1.1 != r1628.2.1) then
 some false
 else
 bif (r1627.1.1.2.1 != r1628.2.2) then
 some false
 else
 L73_1 c84 d86v2 c93 c108 c23 d88v2 c94 d87v1 c95 d92v1 c112 d97v0 d92v2 d86v1 d88v1 d87v2 d92v3 d97v1 d92v0 N KK0 N v1 v2 v3 v4 v5 v1 v2 ((v1 : Nat) : Int) (0 : Int) (t33 r1627.2.1).1 (t33 r1627.2.1).2.1 (t33 r1627.2.1).2.2.1 (t33 r1627.2.1).2.2.2.1 (t33 r1627.2.1).2.2.2.2.1 (t33 r1627.2.1).2.2.2.2.2.1 (t33 r1627.2.1).2.2.2.2.2.2.1 (t33 r1627.2.1).2.2.2.2.2.2.2.1 (t33 r1627.2.1).2.2.2.2.2.2.2.2.1 v15 v16 v17 v18 v19 v20 v21 v22 v23 r1628.1.1 r1628.1.2.1 r1628.1.2.2.1 r1628.1.2.2.2.1 r1628.1.2.2.2.2.1 r1628.1.2.2.2.2.2.1 r1628.1.2.2.2.2.2.2.1 r1628.1.2.2.2.2.2.2.2.1 r1628.1.2.2.2.2.2.2.2.2 v33 v34 v35 v36 v37 v38 v39 v40 v41
 else none
def S73_013 (c84 : D84) (d86v2 : D86v2) (c93 : D93) (c108 : D108) (c23 : D23) (d88v2 : D88v2) (c94 : D94) (d87v1 : D87v1) (c95 : D95) (d92v1 : D92v1) (c112 : D112) (d97v0 : D97v0) (d92v2 : D92v2) (d86v1 : D86v1) (d88v1 : D88v1) (d87v2 : D87v2) (d92v3 : D92v3) (d97v1 : D97v1) (d92v0 : D92v0) (N : Nat) (KK0 : K73) (v1 : Nat) (v2 : Nat) (v3 : List (Int × Bool × Bool × Int × Int × Int × (List Int))) (v4 : Int) (v5 : Int) (v6 : List Int) (v7 : Int) (v8 : Int) (v9 : Int) (v10 : List Int) (v11 : Int) (v12 : Int) (v13 : Int) (v14 : Bool) (v15 : List Int) (v16 : Int) (v17 : Int) (v18 : Int) (v19 : List Int) (v20 : Int) (v21 : Int) (v22 : Int) (v23 : Bool) (v24 : List Int) (v25 : Int) (v26 : Int) (v27 : Int) (v28 : List Int) (v29 : Int) (v30 : Int) (v31 : Int) (v32 : Bool) (v33 : List Int) (v34 : Int) (v35 : Int) (v36 : Int) (v37 : List Int) (v38 : Int) (v39 : Int) (v40 : Int) (v41 : Bool) (x42 : Int × Bool × Bool × Int × Int × Int × (List Int)) : Option Bool :=
 bif (decide ((0 : Int) < ((v1 : Nat) : Int))) then
 bif (decide ((0 : Int) < ((v1 : Nat) : Int))) then
 match d92v3 x42.2.2.2.1 x42.2.2.2.2.1 x42.2.2.2.2.2.1 v6 v7 v8 v9 v10 v11 v12 v13 v14 with
 | none => none
 | some r1670 =>
 match c112 x42.2.2.2.1 with
 | none => none
 | some r1671 =>
 bif (!r1671) then
 bif (r1670.1.1.1 != (0 : Int)) then
 some false
 else
 bif (r1670.1.1.2.1 != (1 : Int)) then
 some false
 else
 L73_1 c84 d86v2 c93 c108 c23 d88v2 c94 d87v1 c95 d92v1 c112 d97v0 d92v2 d86v1 d88v1 d87v2 d92v3 d97v1 d92v0 N KK0 N v1 v2 v3 v4 v5 v1 v2 ((v1 : Nat) : Int) (0 : Int) (t33 r1670.2.1).1 (t33 r1670.2.1).2.1 (t33 r1670.2.1).2.2.1 (t33 r1670.2.1).2.2.2.1 (t33 r1670.2.1).2.2.2.2.1 (t33 r1670.2.1).2.2.2.2.2.1 (t33 r1670.2.1).2.2.2.2.2.2.1 (t33 r1670.2.1).2.2.2.2.2.2.2.1 (t33 r1670.2.1).2.2.2.2.2.2.2.2.1 v15 v16 v17 v18 v19 v20 v21 v22 v23 v24 v25 v26 v27 v28 v29 v30 v31 v32 v33 v34 v35 v36 v37 v38 v39 v40 v41
 else
 match c112 x42.2.2.2.2.1 with
 | none => none
 | some r1713 =>
 bif (!r1713) then
 bif (r1670.1.1.1 != (0 : Int)) then
 some false
 else
 bif (r1670.1.1.2.1 != (1 : Int)) then
 some false
 else
 L73_1 c84 d86v2 c93 c108 c23 d88v2 c94 d87v1 c95 d92v1 c112 d97v0 d92v2 d86v1 d88v1 d87v2 d92v3 d97v1 d92v0 N KK0 N v1 v2 v3 v4 v5 v1 v2 ((v1 : Nat) : Int) (0 : Int) (t33 r1670.2.1).1 (t33 r1670.2.1).2.1 (t33 r1670.2.1).2.2.1 (t33 r1670.2.1).2.2.2.1 (t33 r1670.2.1).2.2.2.2.1 (t33 r1670.2.1).2.2.2.2.2.1 (t33 r1670.2.1).2.2.2.2.2.2.1 (t33 r1670.2.1).2.2.2.2.2.2.2.1 (t33 r1670.2.1).2.2.2.2.2.2.2.2.1 v15 v16 v17 v18 v19 v20 v21 v22 v23 v24 v25 v26 v27 v28 v29 v30 v31 v32 v33 v34 v35 v36 v37 v38 v39 v40 v41
 else
 bif (decide (x42.2.2.2.2.2.1 < (0 : Int))) then
 bif (r1670.1.1.1 != (0 : Int)) then
 some false
 else
 bif (r1670.1.1.2.1 != (1 : Int)) then
 some false
 else
 L73_1 c84 d86v2 c93 c108 c23 d88v2 c94 d87v1 c95 d92v1 c112 d97v0 d92v2 d86v1 d88v1 d87v2 d92v3 d97v1 d92v0 N KK0 N v1 v2 v3 v4 v5 v1 v2 ((v1 : Nat) : Int) (0 : Int) (t33 r1670.2.1).1 (t33 r1670.2.1).2.1 (t33 r1670.2.1).2.2.1 (t33 r1670.2.1).2.2.2.1 (t33 r1670.2.1).2.2.2.2.1 (t33 r1670.2.1).2.2.2.2.2.1 (t33 r1670.2.1).2.2.2.2.2.2.1 (t33 r1670.2.1).2.2.2.2.2.2.2.1 (t33 r1670.2.1).2.2.2.2.2.2.2.2.1 v15 v16 v17 v18 v19 v20 v21 v22 v23 v24 v25 v26 v27 v28 v29 v30 v31 v32 v33 v34 v35 v36 v37 v38 v39 v40 v41
 else
 bif (x42.2.2.2.1 == x42.2.2.2.2.1) then
 bif (r1670.1.1.1 != (0 : Int)) then
 some false
 else
 bif (r1670.1.1.2.1 != (1 : Int)) then
 some false
 else
 L73_1 c84 d86v2 c93 c108 c23 d88v2 c94 d87v1 c95 d92v1 c112 d97v0 d92v2 d86v1 d88v1 d87v2 d92v3 d97v1 d92v0 N KK0 N v1 v2 v3 v4 v5 v1 v2 ((v1 : Nat) : Int) (0 : Int) (t33 r1670.2.1).1 (t33 r1670.2.1).2.1 (t33 r1670.2.1).2.2.1 (t33 r1670.2.1).2.2.2.1 (t33 r1670.2.1).2.2.2.2.1 (t33 r1670.2.1).2.2.2.2.2.1 (t33 r1670.2.1).2.2.2.2.2.2.1 (t33 r1670.2.1).2.2.2.2.2.2.2.1 (t33 r1670.2.1).2.2.2.2.2.2.2.2.1 v15 v16 v17 v18 v19 v20 v21 v22 v23 v24 v25 v26 v27 v28 v29 v30 v31 v32 v33 v34 v35 v36 v37 v38 v39 v40 v41
 else
 bif v32 then
 bif (r1670.1.1.1 != (0 : Int)) then
 some false
 else
 bif (r1670.1.1.2.1 != (11 : Int)) then
 some false
 else
 L73_1 c84 d86v2 c93 c108 c23 d88v2 c94 d87v1 c95 d92v1 c112 d97v0 d92v2 d86v1 d88v1 d87v2 d92v3 d97v1 d92v0 N KK0 N v1 v2 v3 v4 v5 v1 v2 ((v1 : Nat) : Int) (0 : Int) (t33 r1670.2.1).1 (t33 r1670.2.1).2.1 (t33 r1670.2.1).2.2.1 (t33 r1670.2.1).2.2.2.1 (t33 r1670.2.1).2.2.2.2.1 (t33 r1670.2.1).2.2.2.2.2.1 (t33 r1670.2.1).2.2.2.2.2.2.1 (t33 r1670.2.1).2.2.2.2.2.2.2.1 (t33 r1670.2.1).2.2.2.2.2.2.2.2.1 v15 v16 v17 v18 v19 v20 v21 v22 v23 v24 v25 v26 v27 v28 v29 v30 v31 v32 v33 v34 v35 v36 v37 v38 v39 v40 v41
 else
 bif ((decide ((0 : Int) ≤ x42.2.2.2.1)) && (decide (x42.2.2.2.1 < (2 : Int)))) then
 bif (Nat.beq (Int.toNat x42.2.2.2.1) 0) then
 bif ((decide ((0 : Int) ≤ x42.2.2.2.2.1)) && (decide (x42.2.2.2.2.1 < (2 : Int)))) then
 bif (Nat.beq (Int.toNat x42.2.2.2.2.1) 0) then
 bif (decide ((iadd .i64 (((List.length v24) : Nat) : Int) (if (((List.length v24) : Nat) : Int) < x42.2.2.2.2.2.1 then (((List.length v24) : Nat) : Int) else x42.2.2.2.2.2.1)) > (65536 : Int))) then
 bif (r1670.1.1.1 != (0 : Int)) then
 some false
 else
 bif (r1670.1.1.2.1 != (12 : Int)) then
 some false
 else
 L73_1 c84 d86v2 c93 c108 c23 d88v2 c94 d87v1 c95 d92v1 c112 d97v0 d92v2 d86v1 d88v1 d87v2 d92v3 d97v1 d92v0 N KK0 N v1 v2 v3 v4 v5 v1 v2 ((v1 : Nat) : Int) (0 : Int) (t33 r1670.2.1).1 (t33 r1670.2.1).2.1 (t33 r1670.2.1).2.2.1 (t33 r1670.2.1).2.2.2.1 (t33 r1670.2.1).2.2.2.2.1 (t33 r1670.2.1).2.2.2.2.2.1 (t33 r1670.2.1).2.2.2.2.2.2.1 (t33 r1670.2.1).2.2.2.2.2.2.2.1 (t33 r1670.2.1).2.2.2.2.2.2.2.2.1 v15 v16 v17 v18 v19 v20 v21 v22 v23 v24 v25 v26 v27 v28 v29 v30 v31 v32 v33 v34 v35 v36 v37 v38 v39 v40 v41
 else
 match c94 (v24, (v25, (v26, (v27, (v28, (v29, (v30, (v31, v32)))))))) x42.2.2.2.1 x42.2.2.2.2.2.1 with
 | none => none
 | some r1919 =>
 match c93 (r1919.1.1, (r1919.1.2.1, (r1919.1.2.2.1, (r1919.1.2.2.2.1, (r1919.1.2.2.2.2.1, (r1919.1.2.2.2.2.2.1, (r1919.1.2.2.2.2.2.2.1, (r1919.1.2.2.2.2.2.2.2.1, r1919.1.2.2.2.2.2.2.2.2)))))))) x42.2.2.2.2.1 r1919.2.1 with
 | none => none
 | some r1920 =>
 bif (r1670.1.1.1 != (((List.length r1919.2.1) : Nat) : Int)) then
 some false
 else
 bif (r1670.1.1.2.1 != (0 : Int)) then
 some false
 else
 L73_1 c84 d86v2 c93 c108 c23 d88v2 c94 d87v1 c95 d92v1 c112 d97v0 d92v2 d86v1 d88v1 d87v2 d92v3 d97v1 d92v0 N KK0 N v1 v2 v3 v4 v5 v1 v2 ((v1 : Nat) : Int) (0 : Int) (t33 r1670.2.1).1 (t33 r1670.2.1).2.1 (t33 r1670.2.1).2.2.1 (t33 r1670.2.1).2.2.2.1 (t33 r1670.2.1).2.2.2.2.1 (t33 r1670.2.1).2.2.2.2.2.1 (t33 r1670.2.1).2.2.2.2.2.2.1 (t33 r1670.2.1).2.2.2.2.2.2.2.1 (t33 r1670.2.1).2.2.2.2.2.2.2.2.1 v15 v16 v17 v18 v19 v20 v21 v22 v23 r1920.1.1 r1920.1.2.1 r1920.1.2.2.1 r1920.1.2.2.2.1 r1920.1.2.2.2.2.1 r1920.1.2.2.2.2.2.1 r1920.1.2.2.2.2.2.2.1 r1920.1.2.2.2.2.2.2.2.1 r1920.1.2.2.2.2.2.2.2.2 v33 v34 v35 v36 v37 v38 v39 v40 v41
 else
 bif (Nat.beq (Int.toNat x42.2.2.2.2.1) 1) then
 bif (decide ((iadd .i64 (((List.length v28) : Nat) : Int) (if (((List.length v24) : Nat) : Int) < x42.2.2.2.2.2.1 then (((List.length v24) : Nat) : Int) else x42.2.2.2.2.2.1)) > (65536 : Int))) then
 bif (r1670.1.1.1 != (0 : Int)) then
 some false
 else
 bif (r1670.1.1.2.1 != (12 : Int)) then
 some false
 else
 L73_1 c84 d86v2 c93 c108 c23 d88v2 c94 d87v1 c95 d92v1 c112 d97v0 d92v2 d86v1 d88v1 d87v2 d92v3 d97v1 d92v0 N KK0 N v1 v2 v3 v4 v5 v1 v2 ((v1 : Nat) : Int) (0 : Int) (t33 r1670.2.1).1 (t33 r1670.2.1).2.1 (t33 r1670.2.1).2.2.1 (t33 r1670.2.1).2.2.2.1 (t33 r1670.2.1).2.2.2.2.1 (t33 r1670.2.1).2.2.2.2.2.1 (t33 r1670.2.1).2.2.2.2.2.2.1 (t33 r1670.2.1).2.2.2.2.2.2.2.1 (t33 r1670.2.1).2.2.2.2.2.2.2.2.1 v15 v16 v17 v18 v19 v20 v21 v22 v23 v24 v25 v26 v27 v28 v29 v30 v31 v32 v33 v34 v35 v36 v37 v38 v39 v40 v41
 else
 match c94 (v24, (v25, (v26, (v27, (v28, (v29, (v30, (v31, v32)))))))) x42.2.2.2.1 x42.2.2.2.2.2.1 with
 | none => none
 | some r2003 =>
 match c93 (r2003.1.1, (r2003.1.2.1, (r2003.1.2.2.1, (r2003.1.2.2.2.1, (r2003.1.2.2.2.2.1, (r2003.1.2.2.2.2.2.1, (r2003.1.2.2.2.2.2.2.1, (r2003.1.2.2.2.2.2.2.2.1, r2003.1.2.2.2.2.2.2.2.2)))))))) x42.2.2.2.2.1 r2003.2.1 with
 | none => none
 | some r2004 =>
 bif (r1670.1.1.1 != (((List.length r2003.2.1) : Nat) : Int)) then
 some false
 else
 bif (r1670.1.1.2.1 != (0 : Int)) then
 some false
 else
 L73_1 c84 d86v2 c93 c108 c23 d88v2 c94 d87v1 c95 d92v1 c112 d97v0 d92v2 d86v1 d88v1 d87v2 d92v3 d97v1 d92v0 N KK0 N v1 v2 v3 v4 v5 v1 v2 ((v1 : Nat) : Int) (0 : Int) (t33 r1670.2.1).1 (t33 r1670.2.1).2.1 (t33 r1670.2.1).2.2.1 (t33 r1670.2.1).2.2.2.1 (t33 r1670.2.1).2.2.2.2.1 (t33 r1670.2.1).2.2.2.2.2.1 (t33 r1670.2.1).2.2.2.2.2.2.1 (t33 r1670.2.1).2.2.2.2.2.2.2.1 (t33 r1670.2.1).2.2.2.2.2.2.2.2.1 v15 v16 v17 v18 v19 v20 v21 v22 v23 r2004.1.1 r2004.1.2.1 r2004.1.2.2.1 r2004.1.2.2.2.1 r2004.1.2.2.2.2.1 r2004.1.2.2.2.2.2.1 r2004.1.2.2.2.2.2.2.1 r2004.1.2.2.2.2.2.2.2.1 r2004.1.2.2.2.2.2.2.2.2 v33 v34 v35 v36 v37 v38 v39 v40 v41
 else none
 else none
 else
 bif (Nat.beq (Int.toNat x42.2.2.2.1) 1) then
 bif ((decide ((0 : Int) ≤ x42.2.2.2.2.1)) && (decide (x42.2.2.2.2.1 < (2 : Int)))) then
 bif (Nat.beq (Int.toNat x42.2.2.2.2.1) 0) then
 bif (decide ((iadd .i64 (((List.length v24) : Nat) : Int) (if (((List.length v28) : Nat) : Int) < x42.2.2.2.2.2.1 then (((List.length v28) : Nat) : Int) else x42.2.2.2.2.2.1)) > (65536 : Int))) then
 bif (r1670.1.1.1 != (0 : Int)) then
 some false
 else
 bif (r1670.1.1.2.1 != (12 : Int)) then
 some false
 else
 L73_1 c84 d86v2 c93 c108 c23 d88v2 c94 d87v1 c95 d92v1 c112 d97v0 d92v2 d86v1 d88v1 d87v2 d92v3 d97v1 d92v0 N KK0 N v1 v2 v3 v4 v5 v1 v2 ((v1 : Nat) : Int) (0 : Int) (t33 r1670.2.1).1 (t33 r1670.2.1).2.1 (t33 r1670.2.1).2.2.1 (t33 r1670.2.1).2.2.2.1 (t33 r1670.2.1).2.2.2.2.1 (t33 r1670.2.1).2.2.2.2.2.1 (t33 r1670.2.1).2.2.2.2.2.2.1 (t33 r1670.2.1).2.2.2.2.2.2.2.1 (t33 r1670.2.1).2.2.2.2.2.2.2.2.1 v15 v16 v17 v18 v19 v20 v21 v22 v23 v24 v25 v26 v27 v28 v29 v30 v31 v32 v33 v34 v35 v36 v37 v38 v39 v40 v41
 else
 match c94 (v24, (v25, (v26, (v27, (v28, (v29, (v30, (v31, v32)))))))) x42.2.2.2.1 x42.2.2.2.2.2.1 with
 | none => none
 | some r2087 =>
 match c93 (r2087.1.1, (r2087.1.2.1, (r2087.1.2.2.1, (r2087.1.2.2.2.1, (r2087.1.2.2.2.2.1, (r2087.1.2.2.2.2.2.1, (r2087.1.2.2.2.2.2.2.1, (r2087.1.2.2.2.2.2.2.2.1, r2087.1.2.2.2.2.2.2.2.2)))))))) x42.2.2.2.2.1 r2087.2.1 with
 | none => none
 | some r2088 =>
 bif (r1670.1.1.1 != (((List.length r2087.2.1) : Nat) : Int)) then
 some false
 else
 bif (r1670.1.1.2.1 != (0 : Int)) then
 some false
 else
 L73_1 c84 d86v2 c93 c108 c23 d88v2 c94 d87v1 c95 d92v1 c112 d97v0 d92v2 d86v1 d88v1 d87v2 d92v3 d97v1 d92v0 N KK0 N v1 v2 v3 v4 v5 v1 v2 ((v1 : Nat) : Int) (0 : Int) (t33 r1670.2.1).1 (t33 r1670.2.1).2.1 (t33 r1670.2.1).2.2.1 (t33 r1670.2.1).2.2.2.1 (t33 r1670.2.1).2.2.2.2.1 (t33 r1670.2.1).2.2.2.2.2.1 (t33 r1670.2.1).2.2.2.2.2.2.1 (t33 r1670.2.1).2.2.2.2.2.2.2.1 (t33 r1670.2.1).2.2.2.2.2.2.2.2.1 v15 v16 v17 v18 v19 v20 v21 v22 v23 r2088.1.1 r2088.1.2.1 r2088.1.2.2.1 r2088.1.2.2.2.1 r2088.1.2.2.2.2.1 r2088.1.2.2.2.2.2.1 r2088.1.2.2.2.2.2.2.1 r2088.1.2.2.2.2.2.2.2.1 r2088.1.2.2.2.2.2.2.2.2 v33 v34 v35 v36 v37 v38 v39 v40 v41
 else
 bif (Nat.beq (Int.toNat x42.2.2.2.2.1) 1) then
 bif (decide ((iadd .i64 (((List.length v28) : Nat) : Int) (if (((List.length v28) : Nat) : Int) < x42.2.2.2.2.2.1 then (((List.length v28) : Nat) : Int) else x42.2.2.2.2.2.1)) > (65536 : Int))) then
 bif (r1670.1.1.1 != (0 : Int)) then
 some false
 else
 bif (r1670.1.1.2.1 != (12 : Int)) then
 some false
 else
 L73_1 c84 d86v2 c93 c108 c23 d88v2 c94 d87v1 c95 d92v1 c112 d97v0 d92v2 d86v1 d88v1 d87v2 d92v3 d97v1 d92v0 N KK0 N v1 v2 v3 v4 v5 v1 v2 ((v1 : Nat) : Int) (0 : Int) (t33 r1670.2.1).1 (t33 r1670.2.1).2.1 (t33 r1670.2.1).2.2.1 (t33 r1670.2.1).2.2.2.1 (t33 r1670.2.1).2.2.2.2.1 (t33 r1670.2.1).2.2.2.2.2.1 (t33 r1670.2.1).2.2.2.2.2.2.1 (t33 r1670.2.1).2.2.2.2.2.2.2.1 (t33 r1670.2.1).2.2.2.2.2.2.2.2.1 v15 v16 v17 v18 v19 v20 v21 v22 v23 v24 v25 v26 v27 v28 v29 v30 v31 v32 v33 v34 v35 v36 v37 v38 v39 v40 v41
 else
 match c94 (v24, (v25, (v26, (v27, (v28, (v29, (v30, (v31, v32)))))))) x42.2.2.2.1 x42.2.2.2.2.2.1 with
 | none => none
 | some r2171 =>
 match c93 (r2171.1.1, (r2171.1.2.1, (r2171.1.2.2.1, (r2171.1.2.2.2.1, (r2171.1.2.2.2.2.1, (r2171.1.2.2.2.2.2.1, (r2171.1.2.2.2.2.2.2.1, (r2171.1.2.2.2.2.2.2.2.1, r2171.1.2.2.2.2.2.2.2.2)))))))) x42.2.2.2.2.1 r2171.2.1 with
 | none => none
 | some r2172 =>
 bif (r1670.1.1.1 != (((List.length r2171.2.1) : Nat) : Int)) then
 some false
 else
 bif (r1670.1.1.2.1 != (0 : Int)) then
 some false
 else
 L73_1 c84 d86v2 c93 c108 c23 d88v2 c94 d87v1 c95 d92v1 c112 d97v0 d92v2 d86v1 d88v1 d87v2 d92v3 d97v1 d92v0 N KK0 N v1 v2 v3 v4 v5 v1 v2 ((v1 : Nat) : Int) (0 : Int) (t33 r1670.2.1).1 (t33 r1670.2.1).2.1 (t33 r1670.2.1).2.2.1 (t33 r1670.2.1).2.2.2.1 (t33 r1670.2.1).2.2.2.2.1 (t33 r1670.2.1).2.2.2.2.2.1 (t33 r1670.2.1).2.2.2.2.2.2.1 (t33 r1670.2.1).2.2.2.2.2.2.2.1 (t33 r1670.2.1).2.2.2.2.2.2.2.2.1 v15 v16 v17 v18 v19 v20 v21 v22 v23 r2172.1.1 r2172.1.2.1 r2172.1.2.2.1 r2172.1.2.2.2.1 r2172.1.2.2.2.2.1 r2172.1.2.2.2.2.2.1 r2172.1.2.2.2.2.2.2.1 r2172.1.2.2.2.2.2.2.2.1 r2172.1.2.2.2.2.2.2.2.2 v33 v34 v35 v36 v37 v38 v39 v40 v41
 else none
 else none
 else none
 else none
 else none
 else none
def S73_014 (c84 : D84) (d86v2 : D86v2) (c93 : D93) (c108 : D108) (c23 : D23) (d88v2 : D88v2) (c94 : D94) (d87v1 : D87v1) (c95 : D95) (d92v1 : D92v1) (c112 : D112) (d97v0 : D97v0) (d92v2 : D92v2) (d86v1 : D86v1) (d88v1 : D88v1) (d87v2 : D87v2) (d92v3 : D92v3) (d97v1 : D97v1) (d92v0 : D92v0) (N : Nat) (KK0 : K73) (v1 : Nat) (v2 : Nat) (v3 : List (Int × Bool × Bool × Int × Int × Int × (List Int))) (v4 : Int) (v5 : Int) (v6 : List Int) (v7 : Int) (v8 : Int) (v9 : Int) (v10 : List Int) (v11 : Int) (v12 : Int) (v13 : Int) (v14 : Bool) (v15 : List Int) (v16 : Int) (v17 : Int) (v18 : Int) (v19 : List Int) (v20 : Int) (v21 : Int) (v22 : Int) (v23 : Bool) (v24 : List Int) (v25 : Int) (v26 : Int) (v27 : Int) (v28 : List Int) (v29 : Int) (v30 : Int) (v31 : Int) (v32 : Bool) (v33 : List Int) (v34 : Int) (v35 : Int) (v36 : Int) (v37 : List Int) (v38 : Int) (v39 : Int) (v40 : Int) (v41 : Bool) (x42 : Int × Bool × Bool × Int × Int × Int × (List Int)) : Option Bool :=
 bif (decide ((0 : Int) < ((v1 : Nat) : Int))) then
 match d97v1 v6 v7 v8 v9 v10 v11 v12 v13 v14 with
 | none => none
 | some r2214 =>
 L73_1 c84 d86v2 c93 c108 c23 d88v2 c94 d87v1 c95 d92v1 c112 d97v0 d92v2 d86v1 d88v1 d87v2 d92v3 d97v1 d92v0 N KK0 N v1 v2 v3 v4 v5 v1 v2 ((v1 : Nat) : Int) (0 : Int) (t33 r2214.2.1).1 (t33 r2214.2.1).2.1 (t33 r2214.2.1).2.2.1 (t33 r2214.2.1).2.2.2.1 (t33 r2214.2.1).2.2.2.2.1 (t33 r2214.2.1).2.2.2.2.2.1 (t33 r2214.2.1).2.2.2.2.2.2.1 (t33 r2214.2.1).2.2.2.2.2.2.2.1 (t33 r2214.2.1).2.2.2.2.2.2.2.2.1 v15 v16 v17 v18 v19 v20 v21 v22 v23 v24 v25 v26 v27 v28 v29 v30 v31 true v33 v34 v35 v36 v37 v38 v39 v40 v41
 else none
def S73_000 (c84 : D84) (d86v2 : D86v2) (c93 : D93) (c108 : D108) (c23 : D23) (d88v2 : D88v2) (c94 : D94) (d87v1 : D87v1) (c95 : D95) (d92v1 : D92v1) (c112 : D112) (d97v0 : D97v0) (d92v2 : D92v2) (d86v1 : D86v1) (d88v1 : D88v1) (d87v2 : D87v2) (d92v3 : D92v3) (d97v1 : D97v1) (d92v0 : D92v0) (N : Nat) (KK0 : K73) (v1 : Nat) (v2 : Nat) (v3 : List (Int × Bool × Bool × Int × Int × Int × (List Int))) (v4 : Int) (v5 : Int) (v6 : List Int) (v7 : Int) (v8 : Int) (v9 : Int) (v10 : List Int) (v11 : Int) (v12 : Int) (v13 : Int) (v14 : Bool) (v15 : List Int) (v16 : Int) (v17 : Int) (v18 : Int) (v19 : List Int) (v20 : Int) (v21 : Int) (v22 : Int) (v23 : Bool) (v24 : List Int) (v25 : Int) (v26 : Int) (v27 : Int) (v28 : List Int) (v29 : Int) (v30 : Int) (v31 : Int) (v32 : Bool) (v33 : List Int) (v34 : Int) (v35 : Int) (v36 : Int) (v37 : List Int) (v38 : Int) (v39 : Int) (v40 : Int) (v41 : Bool) (x42 : Int × Bool × Bool × Int × Int × Int × (List Int)) : Option Bool :=
 bif (decide ((0 : Int) < ((v1 : Nat) : Int))) then
 match d86v1 x42.2.2.2.1 x42.2.2.2.2.2.2 v6 v7 v8 v9 v10 v11 v12 v13 v14 with
 | none => none
 | some r2256 =>
 match c93 (v24, (v25, (v26, (v27, (v28, (v29, (v30, (v31, v32)))))))) x42.2.2.2.1 x42.2.2.2.2.2.2 with
 | none => none
 | some r2257 =>
 bif (r2256.1.1 != r2257.2) then
 some false
 else
 L73_1 c84 d86v2 c93 c108 c23 d88v2 c94 d87v1 c95 d92v1 c112 d97v0 d92v2 d86v1 d88v1 d87v2 d92v3 d97v1 d92v0 N KK0 N v1 v2 v3 v4 v5 v1 v2 ((v1 : Nat) : Int) (0 : Int) (t33 r2256.2.1).1 (t33 r2256.2.1).2.1 (t33 r2256.2.1).2.2.1 (t33 r2256.2.1).2.2.2.1 (t33 r2256.2.1).2.2.2.2.1 (t33 r2256.2.1).2.2.2.2.2.1 (t33 r2256.2.1).2.2.2.2.2.2.1 (t33 r2256.2.1).2.2.2.2.2.2.2.1 (t33 r2256.2.1).2.2.2.2.2.2.2.2.1 v15 v16 v17 v18 v19 v20 v21 v22 v23 r2257.1.1 r2257.1.2.1 r2257.1.2.2.1 r2257.1.2.2.2.1 r2257.1.2.2.2.2.1 r2257.1.2.2.2.2.2.1 r2257.1.2.2.2.2.2.2.1 r2257.1.2.2.2.2.2.2.2.1 r2257.1.2.2.2.2.2.2.2.2 v33 v34 v35 v36 v37 v38 v39 v40 v41
 else none
def S73_001 (c84 : D84) (d86v2 : D86v2) (c93 : D93) (c108 : D108) (c23 : D23) (d88v2 : D88v2) (c94 : D94) (d87v1 : D87v1) (c95 : D95) (d92v1 : D92v1) (c112 : D112) (d97v0 : D97v0) (d92v2 : D92v2) (d86v1 : D86v1) (d88v1 : D88v1) (d87v2 : D87v2) (d92v3 : D92v3) (d97v1 : D97v1) (d92v0 : D92v0) (N : Nat) (KK0 : K73) (v1 : Nat) (v2 : Nat) (v3 : List (Int × Bool × Bool × Int × Int × Int × (List Int))) (v4 : Int) (v5 : Int) (v6 : List Int) (v7 : Int) (v8 : Int) (v9 : Int) (v10 : List Int) (v11 : Int) (v12 : Int) (v13 : Int) (v14 : Bool) (v15 : List Int) (v16 : Int) (v17 : Int) (v18 : Int) (v19 : List Int) (v20 : Int) (v21 : Int) (v22 : Int) (v23 : Bool) (v24 : List Int) (v25 : Int) (v26 : Int) (v27 : Int) (v28 : List Int) (v29 : Int) (v30 : Int) (v31 : Int) (v32 : Bool) (v33 : List Int) (v34 : Int) (v35 : Int) (v36 : Int) (v37 : List Int) (v38 : Int) (v39 : Int) (v40 : Int) (v41 : Bool) (x42 : Int × Bool × Bool × Int × Int × Int × (List Int)) : Option Bool :=
 bif (decide ((0 : Int) < ((v1 : Nat) : Int))) then
 match d88v1 x42.2.2.2.1 x42.2.2.2.2.2.1 v6 v7 v8 v9 v10 v11 v12 v13 v14 with
 | none => none
 | some r2299 =>
 match c94 (v24, (v25, (v26, (v27, (v28, (v29, (v30, (v31, v32)))))))) x42.2.2.2.1 x42.2.2.2.2.2.1 with
 | none => none
 | some r2300 =>
 match c23 r2299.1.1.1 r2300.2.1 with
 | none => none
 | some r2301 =>
 bif (!r2301) then
 some false
 else
 bif (r2299.1.1.2.1 != r2300.2.2) then
 some false
 else
 L73_1 c84 d86v2 c93 c108 c23 d88v2 c94 d87v1 c95 d92v1 c112 d97v0 d92v2 d86v1 d88v1 d87v2 d92v3 d97v1 d92v0 N KK0 N v1 v2 v3 v4 v5 v1 v2 ((v1 : Nat) : Int) (0 : Int) (t33 r2299.2.1).1 (t33 r2299.2.1).2.1 (t33 r2299.2.1).2.2.1 (t33 r2299.2.1).2.2.2.1 (t33 r2299.2.1).2.2.2.2.1 (t33 r2299.2.1).2.2.2.2.2.1 (t33 r2299.2.1).2.2.2.2.2.2.1 (t33 r2299.2.1).2.2.2.2.2.2.2.1 (t33 r2299.2.1).2.2.2.2.2.2.2.2.1 v15 v16 v17 v18 v19 v20 v21 v22 v23 r2300.1.1 r2300.1.2.1 r2300.1.2.2.1 r2300.1.2.2.2.1 r2300.1.2.2.2.2.1 r2300.1.2.2.2.2.2.1 r2300.1.2.2.2.2.2.2.1 r2300.1.2.2.2.2.2.2.2.1 r2300.1.2.2.2.2.2.2.2.2 v33 v34 v35 v36 v37 v38 v39 v40 v41
 else none
def S73_002 (c84 : D84) (d86v2 : D86v2) (c93 : D93) (c108 : D108) (c23 : D23) (d88v2 : D88v2) (c94 : D94) (d87v1 : D87v1) (c95 : D95) (d92v1 : D92v1) (c112 : D112) (d97v0 : D97v0) (d92v2 : D92v2) (d86v1 : D86v1) (d88v1 : D88v1) (d87v2 : D87v2) (d92v3 : D92v3) (d97v1 : D97v1) (d92v0 : D92v0) (N : Nat) (KK0 : K73) (v1 : Nat) (v2 : Nat) (v3 : List (Int × Bool × Bool × Int × Int × Int × (List Int))) (v4 : Int) (v5 : Int) (v6 : List Int) (v7 : Int) (v8 : Int) (v9 : Int) (v10 : List Int) (v11 : Int) (v12 : Int) (v13 : Int) (v14 : Bool) (v15 : List Int) (v16 : Int) (v17 : Int) (v18 : Int) (v19 : List Int) (v20 : Int) (v21 : Int) (v22 : Int) (v23 : Bool) (v24 : List Int) (v25 : Int) (v26 : Int) (v27 : Int) (v28 : List Int) (v29 : Int) (v30 : Int) (v31 : Int) (v32 : Bool) (v33 : List Int) (v34 : Int) (v35 : Int) (v36 : Int) (v37 : List Int) (v38 : Int) (v39 : Int) (v40 : Int) (v41 : Bool) (x42 : Int × Bool × Bool × Int × Int × Int × (List Int)) : Option Bool :=
 bif (decide ((0 : Int) < ((v1 : Nat) : Int))) then
 match d87v2 x42.2.2.2.1 x42.2.2.2.2.2.1 v6 v7 v8 v9 v10 v11 v12 v13 v14 with
 | none => none
 | some r2343 =>
 match c95 (v24, (v25, (v26, (v27, (v28, (v29, (v30, (v31, v32)))))))) x42.2.2.2.1 x42.2.2.2.2.2.1 with
 | none => none
 | some r2344 =>
 bif (r2343.1.1.1 != r2344.2.1) then
 some false
 else
 bif (r2343.1.1.2.1 != r2344.2.2) then
 some false
 else
 L73_1 c84 d86v2 c93 c108 c23 d88v2 c94 d87v1 c95 d92v1 c112 d97v0 d92v2 d86v1 d88v1 d87v2 d92v3 d97v1 d92v0 N KK0 N v1 v2 v3 v4 v5 v1 v2 ((v1 : Nat) : Int) (0 : Int) (t33 r2343.2.1).1 (t33 r2343.2.1).2.1 (t33 r2343.2.1).2.2.1 (t33 r2343.2.1).2.2.2.1 (t33 r2343.2.1).2.2.2.2.1 (t33 r2343.2.1).2.2.2.2.2.1 (t33 r2343.2.1).2.2.2.2.2.2.1 (t33 r2343.2.1).2.2.2.2.2.2.2.1 (t33 r2343.2.1).2.2.2.2.2.2.2.2.1 v15 v16 v17 v18 v19 v20 v21 v22 v23 r2344.1.1 r2344.1.2.1 r2344.1.2.2.1 r2344.1.2.2.2.1 r2344.1.2.2.2.2.1 r2344.1.2.2.2.2.2.1 r2344.1.2.2.2.2.2.2.1 r2344.1.2.2.2.2.2.2.2.1 r2344.1.2.2.2.2.2.2.2.2 v33 v34 v35 v36 v37 v38 v39 v40 v41
 else none
def S73_003 (c84 : D84) (d86v2 : D86v2) (c93 : D93) (c108 : D108) (c23 : D23) (d88v2 : D88v2) (c94 : D94) (d87v1 : D87v1) (c95 : D95) (d92v1 : D92v1) (c112 : D112) (d97v0 : D97v0) (d92v2 : D92v2) (d86v1 : D86v1) (d88v1 : D88v1) (d87v2 : D87v2) (d92v3 : D92v3) (d97v1 : D97v1) (d92v0 : D92v0) (N : Nat) (KK0 : K73) (v1 : Nat) (v2 : Nat) (v3 : List (Int × Bool × Bool × Int × Int × Int × (List Int))) (v4 : Int) (v5 : Int) (v6 : List Int) (v7 : Int) (v8 : Int) (v9 : Int) (v10 : List Int) (v11 : Int) (v12 : Int) (v13 : Int) (v14 : Bool) (v15 : List Int) (v16 : Int) (v17 : Int) (v18 : Int) (v19 : List Int) (v20 : Int) (v21 : Int) (v22 : Int) (v23 : Bool) (v24 : List Int) (v25 : Int) (v26 : Int) (v27 : Int) (v28 : List Int) (v29 : Int) (v30 : Int) (v31 : Int) (v32 : Bool) (v33 : List Int) (v34 : Int) (v35 : Int) (v36 : Int) (v37 : List Int) (v38 : Int) (v39 : Int) (v40 : Int) (v41 : Bool) (x42 : Int × Bool × Bool × Int × Int × Int × (List Int)) : Option Bool :=
 bif (decide ((0 : Int) < ((v1 : Nat) : Int))) then
 bif (decide ((1 : Int) < ((v1 : Nat) : Int))) then
 match d92v0 x42.2.2.2.1 x42.2.2.2.2.1 x42.2.2.2.2.2.1 v6 v7 v8 v9 v10 v11 v12 v13 v14 v15 v16 v17 v18 v19 v20 v21 v22 v23 with
 | none => none
 | some r2386 =>
 match c112 x42.2.2.2.1 with
 | none => none
 | some r2387 =>
 bif (!r2387) then
 bif (r2386.1.1.1 != (0 : Int)) then
 some false
 else
 bif (r2386.1.1.2.1 != (1 : Int)) then
 some false
 else
 L73_1 c84 d86v2 c93 c108 c23 d88v2 c94 d87v1 c95 d92v1 c112 d97v0 d92v2 d86v1 d88v1 d87v2 d92v3 d97v1 d92v0 N KK0 N v1 v2 v3 v4 v5 v1 v2 ((v1 : Nat) : Int) (0 : Int) (t33 r2386.2.1).1 (t33 r2386.2.1).2.1 (t33 r2386.2.1).2.2.1 (t33 r2386.2.1).2.2.2.1 (t33 r2386.2.1).2.2.2.2.1 (t33 r2386.2.1).2.2.2.2.2.1 (t33 r2386.2.1).2.2.2.2.2.2.1 (t33 r2386.2.1).2.2.2.2.2.2.2.1 (t33 r2386.2.1).2.2.2.2.2.2.2.2.1 (t33 r2386.2.2.1).1 (t33 r2386.2.2.1).2.1 (t33 r2386.2.2.1).2.2.1 (t33 r2386.2.2.1).2.2.2.1 (t33 r2386.2.2.1).2.2.2.2.1 (t33 r2386.2.2.1).2.2.2.2.2.1 (t33 r2386.2.2.1).2.2.2.2.2.2.1 (t33 r2386.2.2.1).2.2.2.2.2.2.2.1 (t33 r2386.2.2.1).2.2.2.2.2.2.2.2.1 v24 v25 v26 v27 v28 v29 v30 v31 v32 v33 v34 v35 v36 v37 v38 v39 v40 v41
 else
 match c112 x42.2.2.2.2.1 with
 | none => none
 | some r2429 =>
 bif (!r2429) then
 bif (r2386.1.1.1 != (0 : Int)) then
 some false
 else
 bif (r2386.1.1.2.1 != (1 : Int)) then
 some false
 else
 L73_1 c84 d86v2 c93 c108 c23 d88v2 c94 d87v1 c95 d92v1 c112 d97v0 d92v2 d86v1 d88v1 d87v2 d92v3 d97v1 d92v0 N KK0 N v1 v2 v3 v4 v5 v1 v2 ((v1 : Nat) : Int) (0 : Int) (t33 r2386.2.1).1 (t33 r2386.2.1).2.1 (t33 r2386.2.1).2.2.1 (t33 r2386.2.1).2.2.2.1 (t33 r2386.2.1).2.2.2.2.1 (t33 r2386.2.1).2.2.2.2.2.1 (t33 r2386.2.1).2.2.2.2.2.2.1 (t33 r2386.2.1).2.2.2.2.2.2.2.1 (t33 r2386.2.1).2.2.2.2.2.2.2.2.1 (t33 r2386.2.2.1).1 (t33 r2386.2.2.1).2.1 (t33 r2386.2.2.1).2.2.1 (t33 r2386.2.2.1).2.2.2.1 (t33 r2386.2.2.1).2.2.2.2.1 (t33 r2386.2.2.1).2.2.2.2.2.1 (t33 r2386.2.2.1).2.2.2.2.2.2.1 (t33 r2386.2.2.1).2.2.2.2.2.2.2.1 (t33 r2386.2.2.1).2.2.2.2.2.2.2.2.1 v24 v25 v26 v27 v28 v29 v30 v31 v32 v33 v34 v35 v36 v37 v38 v39 v40 v41
 else
 bif (decide (x42.2.2.2.2.2.1 < (0 : Int))) then
 bif (r2386.1.1.1 != (0 : Int)) then
 some false
 else
 bif (r2386.1.1.2.1 != (1 : Int)) then
 some false
 else
 L73_1 c84 d86v2 c93 c108 c23 d88v2 c94 d87v1 c95 d92v1 c112 d97v0 d92v2 d86v1 d88v1 d87v2 d92v3 d97v1 d92v0 N KK0 N v1 v2 v3 v4 v5 v1 v2 ((v1 : Nat) : Int) (0 : Int) (t33 r2386.2.1).1 (t33 r2386.2.1).2.1 (t33 r2386.2.1).2.2.1 (t33 r2386.2.1).2.2.2.1 (t33 r2386.2.1).2.2.2.2.1 (t33 r2386.2.1).2.2.2.2.2.1 (t33 r2386.2.1).2.2.2.2.2.2.1 (t33 r2386.2.1).2.2.2.2.2.2.2.1 (t33 r2386.2.1).2.2.2.2.2.2.2.2.1 (t33 r2386.2.2.1).1 (t33 r2386.2.2.1).2.1 (t33 r2386.2.2.1).2.2.1 (t33 r2386.2.2.1).2.2.2.1 (t33 r2386.2.2.1).2.2.2.2.1 (t33 r2386.2.2.1).2.2.2.2.2.1 (t33 r2386.2.2.1).2.2.2.2.2.2.1 (t33 r2386.2.2.1).2.2.2.2.2.2.2.1 (t33 r2386.2.2.1).2.2.2.2.2.2.2.2.1 v24 v25 v26 v27 v28 v29 v30 v31 v32 v33 v34 v35 v36 v37 v38 v39 v40 v41
 else
 bif v41 then
 bif (r2386.1.1.1 != (0 : Int)) then
 some false
 else
 bif (r2386.1.1.2.1 != (11 : Int)) then
 some false
 else
 L73_1 c84 d86v2 c93 c108 c23 d88v2 c94 d87v1 c95 d92v1 c112 d97v0 d92v2 d86v1 d88v1 d87v2 d92v3 d97v1 d92v0 N KK0 N v1 v2 v3 v4 v5 v1 v2 ((v1 : Nat) : Int) (0 : Int) (t33 r2386.2.1).1 (t33 r2386.2.1).2.1 (t33 r2386.2.1).2.2.1 (t33 r2386.2.1).2.2.2.1 (t33 r2386.2.1).2.2.2.2.1 (t33 r2386.2.1).2.2.2.2.2.1 (t33 r2386.2.1).2.2.2.2.2.2.1 (t33 r2386.2.1).2.2.2.2.2.2.2.1 (t33 r2386.2.1).2.2.2.2.2.2.2.2.1 (t33 r2386.2.2.1).1 (t33 r2386.2.2.1).2.1 (t33 r2386.2.2.1).2.2.1 (t33 r2386.2.2.1).2.2.2.1 (t33 r2386.2.2.1).2.2.2.2.1 (t33 r2386.2.2.1).2.2.2.2.2.1 (t33 r2386.2.2.1).2.2.2.2.2.2.1 (t33 r2386.2.2.1).2.2.2.2.2.2.2.1 (t33 r2386.2.2.1).2.2.2.2.2.2.2.2.1 v24 v25 v26 v27 v28 v29 v30 v31 v32 v33 v34 v35 v36 v37 v38 v39 v40 v41
 else
 bif ((decide ((0 : Int) ≤ x42.2.2.2.1)) && (decide (x42.2.2.2.1 < (2 : Int)))) then
 bif (Nat.beq (Int.toNat x42.2.2.2.1) 0) then
 bif ((decide ((0 : Int) ≤ x42.2.2.2.2.1)) && (decide (x42.2.2.2.2.1 < (2 : Int)))) then
 bif (Nat.beq (Int.toNat x42.2.2.2.2.1) 0) then
 bif (decide ((iadd .i64 (((List.length v33) : Nat) : Int) (if (((List.length v24) : Nat) : Int) < x42.2.2.2.2.2.1 then (((List.length v24) : Nat) : Int) else x42.2.2.2.2.2.1)) > (65536 : Int))) then
 bif (r2386.1.1.1 != (0 : Int)) then
 some false
 else
 bif (r2386.1.1.2.1 != (12 : Int)) then
 some false
 else
 L73_1 c84 d86v2 c93 c108 c23 d88v2 c94 d87v1 c95 d92v1 c112 d97v0 d92v2 d86v1 d88v1 d87v2 d92v3 d97v1 d92v0 N KK0 N v1 v2 v3 v4 v5 v1 v2 ((v1 : Nat) : Int) (0 : Int) (t33 r2386.2.1).1 (t33 r2386.2.1).2.1 (t33 r2386.2.1).2.2.1 (t33 r2386.2.1).2.2.2.1 (t33 r2386.2.1).2.2.2.2.1 (t33 r2386.2.1).2.2.2.2.2.1 (t33 r2386.2.1).2.2.2.2.2.2.1 (t33 r2386.2.1).2.2.2.2.2.2.2.1 (t33 r2386.2.1).2.2.2.2.2.2.2.2.1 (t33 r2386.2.2.1).1 (t33 r2386.2.2.1).2.1 (t33 r2386.2.2.1).2.2.1 (t33 r2386.2.2.1).2.2.2.1 (t33 r2386.2.2.1).2.2.2.2.1 (t33 r2386.2.2.1).2.2.2.2.2.1 (t33 r2386.2.2.1).2.2.2.2.2.2.1 (t33 r2386.2.2.1).2.2.2.2.2.2.2.1 (t33 r2386.2.2.1).2.2.2.2.2.2.2.2.1 v24 v25 v26 v27 v28 v29 v30 v31 v32 v33 v34 v35 v36 v37 v38 v39 v40 v41
 else
 match c94 (v24, (v25, (v26, (v27, (v28, (v29, (v30, (v31, v32)))))))) x42.2.2.2.1 x42.2.2.2.2.2.1 with
 | none => none
 | some r2594 =>
 match c93 (v33, (v34, (v35, (v36, (v37, (v38, (v39, (v40, v41)))))))) x42.2.2.2.2.1 r2594.2.1 with
 | none => none
 | some r2595 =>
 bif (r2386.1.1.1 != (((List.length r2594.2.1) : Nat) : Int)) then
 some false
 else
 bif (r2386.1.1.2.1 != (0 : Int)) then
 some false
 else
 L73_1 c84 d86v2 c93 c108 c23 d88v2 c94 d87v1 c95 d92v1 c112 d97v0 d92v2 d86v1 d88v1 d87v2 d92v3 d97v1 d92v0 N KK0 N v1 v2 v3 v4 v5 v1 v2 ((v1 : Nat) : Int) (0 : Int) (t33 r2386.2.1).1 (t33 r2386.2.1).2.1 (t33 r2386.2.1).2.2.1 (t33 r2386.2.1).2.2.2.1 (t33 r2386.2.1).2.2.2.2.1 (t33 r2386.2.1).2.2.2.2.2.1 (t33 r2386.2.1).2.2.2.2.2.2.1 (t33 r2386.2.1).2.2.2.2.2.2.2.1 (t33 r2386.2.1).2.2.2.2.2.2.2.2.1 (t33 r2386.2.2.1).1 (t33 r2386.2.2.1).2.1 (t33 r2386.2.2.1).2.2.1 (t33 r2386.2.2.1).2.2.2.1 (t33 r2386.2.2.1).2.2.2.2.1 (t33 r2386.2.2.1).2.2.2.2.2.1 (t33 r2386.2.2.1).2.2.2.2.2.2.1 (t33 r2386.2.2.1).2.2.2.2.2.2.2.1 (t33 r2386.2.2.1).2.2.2.2.2.2.2.2.1 r2594.1.1 r2594.1.2.1 r2594.1.2.2.1 r2594.1.2.2.2.1 r2594.1.2.2.2.2.1 r2594.1.2.2.2.2.2.1 r2594.1.2.2.2.2.2.2.1 r2594.1.2.2.2.2.2.2.2.1 r2594.1.2.2.2.2.2.2.2.2 r2595.1.1 r2595.1.2.1 r2595.1.2.2.1 r2595.1.2.2.2.1 r2595.1.2.2.2.2.1 r2595.1.2.2.2.2.2.1 r2595.1.2.2.2.2.2.2.1 r2595.1.2.2.2.2.2.2.2.1 r2595.1.2.2.2.2.2.2.2.2
 else
 bif (Nat.beq (Int.toNat x42.2.2.2.2.1) 1) then
 bif (decide ((iadd .i64 (((List.length v37) : Nat) : Int) (if (((List.length v24) : Nat) : Int) < x42.2.2.2.2.2.1 then (((List.length v24) : Nat) : Int) else x42.2.2.2.2.2.1)) > (65536 : Int))) then
 bif (r2386.1.1.1 != (0 : Int)) then
 some false
 else
 bif (r2386.1.1.2.1 != (12 : Int)) then
 some false
 else
 L73_1 c84 d86v2 c93 c108 c23 d88v2 c94 d87v1 c95 d92v1 c112 d97v0 d92v2 d86v1 d88v1 d87v2 d92v3 d97v1 d92v0 N KK0 N v1 v2 v3 v4 v5 v1 v2 ((v1 : Nat) : Int) (0 : Int) (t33 r2386.2.1).1 (t33 r2386.2.1).2.1 (t33 r2386.2.1).2.2.1 (t33 r2386.2.1).2.2.2.1 (t33 r2386.2.1).2.2.2.2.1 (t33 r2386.2.1).2.2.2.2.2.1 (t33 r2386.2.1).2.2.2.2.2.2.1 (t33 r2386.2.1).2.2.2.2.2.2.2.1 (t33 r2386.2.1).2.2.2.2.2.2.2.2.1 (t33 r2386.2.2.1).1 (t33 r2386.2.2.1).2.1 (t33 r2386.2.2.1).2.2.1 (t33 r2386.2.2.1).2.2.2.1 (t33 r2386.2.2.1).2.2.2.2.1 (t33 r2386.2.2.1).2.2.2.2.2.1 (t33 r2386.2.2.1).2.2.2.2.2.2.1 (t33 r2386.2.2.1).2.2.2.2.2.2.2.1 (t33 r2386.2.2.1).2.2.2.2.2.2.2.2.1 v24 v25 v26 v27 v28 v29 v30 v31 v32 v33 v34 v35 v36 v37 v38 v39 v40 v41
 else
 match c94 (v24, (v25, (v26, (v27, (v28, (v29, (v30, (v31, v32)))))))) x42.2.2.2.1 x42.2.2.2.2.2.1 with
 | none => none
 | some r2678 =>
 match c93 (v33, (v34, (v35, (v36, (v37, (v38, (v39, (v40, v41)))))))) x42.2.2.2.2.1 r2678.2.1 with
 | none => none
 | some r2679 =>
 bif (r2386.1.1.1 != (((List.length r2678.2.1) : Nat) : Int)) then
 some false
 else
 bif (r2386.1.1.2.1 != (0 : Int)) then
 some false
 else
 L73_1 c84 d86v2 c93 c108 c23 d88v2 c94 d87v1 c95 d92v1 c112 d97v0 d92v2 d86v1 d88v1 d87v2 d92v3 d97v1 d92v0 N KK0 N v1 v2 v3 v4 v5 v1 v2 ((v1 : Nat) : Int) (0 : Int) (t33 r2386.2.1).1 (t33 r2386.2.1).2.1 (t33 r2386.2.1).2.2.1 (t33 r2386.2.1).2.2.2.1 (t33 r2386.2.1).2.2.2.2.1 (t33 r2386.2.1).2.2.2.2.2.1 (t33 r2386.2.1).2.2.2.2.2.2.1 (t33 r2386.2.1).2.2.2.2.2.2.2.1 (t33 r2386.2.1).2.2.2.2.2.2.2.2.1 (t33 r2386.2.2.1).1 (t33 r2386.2.2.1).2.1 (t33 r2386.2.2.1).2.2.1 (t33 r2386.2.2.1).2.2.2.1 (t33 r2386.2.2.1).2.2.2.2.1 (t33 r2386.2.2.1).2.2.2.2.2.1 (t33 r2386.2.2.1).2.2.2.2.2.2.1 (t33 r2386.2.2.1).2.2.2.2.2.2.2.1 (t33 r2386.2.2.1).2.2.2.2.2.2.2.2.1 r2678.1.1 r2678.1.2.1 r2678.1.2.2.1 r2678.1.2.2.2.1 r2678.1.2.2.2.2.1 r2678.1.2.2.2.2.2.1 r2678.1.2.2.2.2.2.2.1 r2678.1.2.2.2.2.2.2.2.1 r2678.1.2.2.2.2.2.2.2.2 r2679.1.1 r2679.1.2.1 r2679.1.2.2.1 r2679.1.2.2.2.1 r2679.1.2.2.2.2.1 r2679.1.2.2.2.2.2.1 r2679.1.2.2.2.2.2.2.1 r2679.1.2.2.2.2.2.2.2.1 r2679.1.2.2.2.2.2.2.2.2
 else none
 else none
 else
 bif (Nat.beq (Int.toNat x42.2.2.2.1) 1) then
 bif ((decide ((0 : Int) ≤ x42.2.2.2.2.1)) && (decide (x42.2.2.2.2.1 < (2 : Int)))) then
 bif (Nat.beq (Int.toNat x42.2.2.2.2.1) 0) then
 bif (decide ((iadd .i64 (((List.length v33) : Nat) : Int) (if (((List.length v28) : Nat) : Int) < x42.2.2.2.2.2.1 then (((List.length v28) : Nat) : Int) else x42.2.2.2.2.2.1)) > (65536 : Int))) then
 bif (r2386.1.1.1 != (0 : Int)) then
 some false
 else
 bif (r2386.1.1.2.1 != (12 : Int)) then
 some false
 else
 L73_1 c84 d86v2 c93 c108 c23 d88v2 c94 d87v1 c95 d92v1 c112 d97v0 d92v2 d86v1 d88v1 d87v2 d92v3 d97v1 d92v0 N KK0 N v1 v2 v3 v4 v5 v1 v2 ((v1 : Nat) : Int) (0 : Int) (t33 r2386.2.1).1 (t33 r2386.2.1).2.1 (t33 r2386.2.1).2.2.1 (t33 r2386.2.1).2.2.2.1 (t33 r2386.2.1).2.2.2.2.1 (t33 r2386.2.1).2.2.2.2.2.1 (t33 r2386.2.1).2.2.2.2.2.2.1 (t33 r2386.2.1).2.2.2.2.2.2.2.1 (t33 r2386.2.1).2.2.2.2.2.2.2.2.1 (t33 r2386.2.2.1).1 (t33 r2386.2.2.1).2.1 (t33 r2386.2.2.1).2.2.1 (t33 r2386.2.2.1).2.2.2.1 (t33 r2386.2.2.1).2.2.2.2.1 (t33 r2386.2.2.1).2.2.2.2.2.1 (t33 r2386.2.2.1).2.2.2.2.2.2.1 (t33 r2386.2.2.1).2.2.2.2.2.2.2.1 (t33 r2386.2.2.1).2.2.2.2.2.2.2.2.1 v24 v25 v26 v27 v28 v29 v30 v31 v32 v33 v34 v35 v36 v37 v38 v39 v40 v41
 else
 match c94 (v24, (v25, (v26, (v27, (v28, (v29, (v30, (v31, v32)))))))) x42.2.2.2.1 x42.2.2.2.2.2.1 with
 | none => none
 | some r2762 =>
 match c93 (v33, (v34, (v35, (v36, (v37, (v38, (v39, (v40, v41)))))))) x42.2.2.2.2.1 r2762.2.1 with
 | none => none
 | some r2763 =>
 bif (r2386.1.1.1 != (((List.length r2762.2.1) : Nat) : Int)) then
 some false
 else
 bif (r2386.1.1.2.1 != (0 : Int)) then
 some false
 else
 L73_1 c84 d86v2 c93 c108 c23 d88v2 c94 d87v1 c95 d92v1 c112 d97v0 d92v2 d86v1 d88v1 d87v2 d92v3 d97v1 d92v0 N KK0 N v1 v2 v3 v4 v5 v1 v2 ((v1 : Nat) : Int) (0 : Int) (t33 r2386.2.1).1 (t33 r2386.2.1).2.1 (t33 r2386.2.1).2.2.1 (t33 r2386.2.1).2.2.2.1 (t33 r2386.2.1).2.2.2.2.1 (t33 r2386.2.1).2.2.2.2.2.1 (t33 r2386.2.1).2.2.2.2.2.2.1 (t33 r2386.2.1).2.2.2.2.2.2.2.1 (t33 r2386.2.1).2.2.2.2.2.2.2.2.1 (t33 r2386.2.2.1).1 (t33 r2386.2.2.1).2.1 (t33 r2386.2.2.1).2.2.1 (t33 r2386.2.2.1).2.2.2.1 (t33 r2386.2.2.1).2.2.2.2.1 (t33 r2386.2.2.1).2.2.2.2.2.1 (t33 r2386.2.2.1).2.2.2.2.2.2.1 (t33 r2386.2.2.1).2.2.2.2.2.2.2.1 (t33 r2386.2.2.1).2.2.2.2.2.2.2.2.1 r2762.1.1 r2762.1.2.1 r2762.1.2.2.1 r2762.1.2.2.2.1 r2762.1.2.2.2.2.1 r2762.1.2.2.2.2.2.1 r2762.1.2.2.2.2.2.2.1 r2762.1.2.2.2.2.2.2.2.1 r2762.1.2.2.2.2.2.2.2.2 r2763.1.1 r2763.1.2.1 r2763.1.2.2.1 r2763.1.2.2.2.1 r2763.1.2.2.2.2.1 r2763.1.2.2.2.2.2.1 r2763.1.2.2.2.2.2.2.1 r2763.1.2.2.2.2.2.2.2.1 r2763.1.2.2.2.2.2.2.2.2
 else
 bif (Nat.beq (Int.toNat x42.2.2.2.2.1) 1) then
 bif (decide ((iadd .i64 (((List.length v37) : Nat) : Int) (if (((List.length v28) : Nat) : Int) < x42.2.2.2.2.2.1 then (((List.length v28) : Nat) : Int) else x42.2.2.2.2.2.1)) > (65536 : Int))) then
 bif (r2386.1.1.1 != (0 : Int)) then
 some false
 else
 bif (r2386.1.1.2.1 != (12 : Int)) then
 some false
 else
 L73_1 c84 d86v2 c93 c108 c23 d88v2 c94 d87v1 c95 d92v1 c112 d97v0 d92v2 d86v1 d88v1 d87v2 d92v3 d97v1 d92v0 N KK0 N v1 v2 v3 v4 v5 v1 v2 ((v1 : Nat) : Int) (0 : Int) (t33 r2386.2.1).1 (t33 r2386.2.1).2.1 (t33 r2386.2.1).2.2.1 (t33 r2386.2.1).2.2.2.1 (t33 r2386.2.1).2.2.2.2.1 (t33 r2386.2.1).2.2.2.2.2.1 (t33 r2386.2.1).2.2.2.2.2.2.1 (t33 r2386.2.1).2.2.2.2.2.2.2.1 (t33 r2386.2.1).2.2.2.2.2.2.2.2.1 (t33 r2386.2.2.1).1 (t33 r2386.2.2.1).2.1 (t33 r2386.2.2.1).2.2.1 (t33 r2386.2.2.1).2.2.2.1 (t33 r2386.2.2.1).2.2.2.2.1 (t33 r2386.2.2.1).2.2.2.2.2.1 (t33 r2386.2.2.1).2.2.2.2.2.2.1 (t33 r2386.2.2.1).2.2.2.2.2.2.2.1 (t33 r2386.2.2.1).2.2.2.2.2.2.2.2.1 v24 v25 v26 v27 v28 v29 v30 v31 v32 v33 v34 v35 v36 v37 v38 v39 v40 v41
 else
 match c94 (v24, (v25, (v26, (v27, (v28, (v29, (v30, (v31, v32)))))))) x42.2.2.2.1 x42.2.2.2.2.2.1 with
 | none => none
 | some r2846 =>
 match c93 (v33, (v34, (v35, (v36, (v37, (v38, (v39, (v40, v41)))))))) x42.2.2.2.2.1 r2846.2.1 with
 | none => none
 | some r2847 =>
 bif (r2386.1.1.1 != (((List.length r2846.2.1) : Nat) : Int)) then
 some false
 else
 bif (r2386.1.1.2.1 != (0 : Int)) then
 some false
 else
 L73_1 c84 d86v2 c93 c108 c23 d88v2 c94 d87v1 c95 d92v1 c112 d97v0 d92v2 d86v1 d88v1 d87v2 d92v3 d97v1 d92v0 N KK0 N v1 v2 v3 v4 v5 v1 v2 ((v1 : Nat) : Int) (0 : Int) (t33 r2386.2.1).1 (t33 r2386.2.1).2.1 (t33 r2386.2.1).2.2.1 (t33 r2386.2.1).2.2.2.1 (t33 r2386.2.1).2.2.2.2.1 (t33 r2386.2.1).2.2.2.2.2.1 (t33 r2386.2.1).2.2.2.2.2.2.1 (t33 r2386.2.1).2.2.2.2.2.2.2.1 (t33 r2386.2.1).2.2.2.2.2.2.2.2.1 (t33 r2386.2.2.1).1 (t33 r2386.2.2.1).2.1 (t33 r2386.2.2.1).2.2.1 (t33 r2386.2.2.1).2.2.2.1 (t33 r2386.2.2.1).2.2.2.2.1 (t33 r2386.2.2.1).2.2.2.2.2.1 (t33 r2386.2.2.1).2.2.2.2.2.2.1 (t33 r2386.2.2.1).2.2.2.2.2.2.2.1 (t33 r2386.2.2.1).2.2.2.2.2.2.2.2.1 r2846.1.1 r2846.1.2.1 r2846.1.2.2.1 r2846.1.2.2.2.1 r2846.1.2.2.2.2.1 r2846.1.2.2.2.2.2.1 r2846.1.2.2.2.2.2.2.1 r2846.1.2.2.2.2.2.2.2.1 r2846.1.2.2.2.2.2.2.2.2 r2847.1.1 r2847.1.2.1 r2847.1.2.2.1 r2847.1.2.2.2.1 r2847.1.2.2.2.2.1 r2847.1.2.2.2.2.2.1 r2847.1.2.2.2.2.2.2.1 r2847.1.2.2.2.2.2.2.2.1 r2847.1.2.2.2.2.2.2.2.2
 else none
 else none
 else none
 else none
 else none
 else none
def S73_004 (c84 : D84) (d86v2 : D86v2) (c93 : D93) (c108 : D108) (c23 : D23) (d88v2 : D88v2) (c94 : D94) (d87v1 : D87v1) (c95 : D95) (d92v1 : D92v1) (c112 : D112) (d97v0 : D97v0) (d92v2 : D92v2) (d86v1 : D86v1) (d88v1 : D88v1) (d87v2 : D87v2) (d92v3 : D92v3) (d97v1 : D97v1) (d92v0 : D92v0) (N : Nat) (KK0 : K73) (v1 : Nat) (v2 : Nat) (v3 : List (Int × Bool × Bool × Int × Int × Int × (List Int))) (v4 : Int) (v5 : Int) (v6 : List Int) (v7 : Int) (v8 : Int) (v9 : Int) (v10 : List Int) (v11 : Int) (v12 : Int) (v13 : Int) (v14 : Bool) (v15 : List Int) (v16 : Int) (v17 : Int) (v18 : Int) (v19 : List Int) (v20 : Int) (v21 : Int) (v22 : Int) (v23 : Bool) (v24 : List Int) (v25 : Int) (v26 : Int) (v27 : Int) (v28 : List Int) (v29 : Int) (v30 : Int) (v31 : Int) (v32 : Bool) (v33 : List Int) (v34 : Int) (v35 : Int) (v36 : Int) (v37 : List Int) (v38 : Int) (v39 : Int) (v40 : Int) (v41 : Bool) (x42 : Int × Bool × Bool × Int × Int × Int × (List Int)) : Option Bool :=
 bif (decide ((0 : Int) < ((v1 : Nat) : Int))) then
 match d97v1 v6 v7 v8 v9 v10 v11 v12 v13 v14 with
 | none => none
 | some r2889 =>
 L73_1 c84 d86v2 c93 c108 c23 d88v2 c94 d87v1 c95 d92v1 c112 d97v0 d92v2 d86v1 d88v1 d87v2 d92v3 d97v1 d92v0 N KK0 N v1 v2 v3 v4 v5 v1 v2 ((v1 : Nat) : Int) (0 : Int) (t33 r2889.2.1).1 (t33 r2889.2.1).2.1 (t33 r2889.2.1).2.2.1 (t33 r2889.2.1).2.2.2.1 (t33 r2889.2.1).2.2.2.2.1 (t33 r2889.2.1).2.2.2.2.2.1 (t33 r2889.2.1).2.2.2.2.2.2.1 (t33 r2889.2.1).2.2.2.2.2.2.2.1 (t33 r2889.2.1).2.2.2.2.2.2.2.2.1 v15 v16 v17 v18 v19 v20 v21 v22 v23 v24 v25 v26 v27 v28 v29 v30 v31 true v33 v34 v35 v36 v37 v38 v39 v40 v41
 else none
def L73_0 (c84 : D84) (d86v2 : D86v2) (c93 : D93) (c108 : D108) (c23 : D23) (d88v2 : D88v2) (c94 : D94) (d87v1 : D87v1) (c95 : D95) (d92v1 : D92v1) (c112 : D112) (d97v0 : D97v0) (d92v2 : D92v2) (d86v1 : D86v1) (d88v1 : D88v1) (d87v2 : D87v2) (d92v3 : D92v3) (d97v1 : D97v1) (d92v0 : D92v0) (N : Nat) (q0_0 : Option Bool) : Nat → Nat → Nat → List (Int × Bool × Bool × Int × Int × Int × (List Int)) → Int → Int → List Int → Int → Int → Int → List Int → Int → Int → Int → Bool → List Int → Int → Int → Int → List Int → Int → Int → Int → Bool → List Int → Int → Int → Int → List Int → Int → Int → Int → Bool → List Int → Int → Int → Int → List Int → Int → Int → Int → Bool → Option Bool
  | 0, _, _, _, _, _, _, _, _, _, _, _, _, _, _, _, _, _, _, _, _, _, _, _, _, _, _, _, _, _, _, _, _, _, _, _, _, _, _, _, _, _ => none
  | n0 + 1, v1, v2, v3, v4, v5, v6, v7, v8, v9, v10, v11, v12, v13, v14, v15, v16, v17, v18, v19, v20, v21, v22, v23, v24, v25, v26, v27, v28, v29, v30, v31, v32, v33, v34, v35, v36, v37, v38, v39, v40, v41 =>
    let KK0 := fun (z0 : Nat) (z1 : Nat) (z2 : List (Int × Bool × Bool × Int × Int × Int × (List Int))) (z3 : Int) (z4 : Int) (z5 : List Int) (z6 : Int) (z7 : Int) (z8 : Int) (z9 : List Int) (z10 : Int) (z11 : Int) (z12 : Int) (z13 : Bool) (z14 : List Int) (z15 : Int) (z16 : Int) (z17 : Int) (z18 : List Int) (z19 : Int) (z20 : Int) (z21 : Int) (z22 : Bool) (z23 : List Int) (z24 : Int) (z25 : Int) (z26 : Int) (z27 : List Int) (z28 : Int) (z29 : Int) (z30 : Int) (z31 : Bool) (z32 : List Int) (z33 : Int) (z34 : Int) (z35 : Int) (z36 : List Int) (z37 : Int) (z38 : Int) (z39 : Int) (z40 : Bool) =>
 L73_0 c84 d86v2 c93 c108 c23 d88v2 c94 d87v1 c95 d92v1 c112 d97v0 d92v2 d86v1 d88v1 d87v2 d92v3 d97v1 d92v0 N q0_0 n0 z0 z1 z2 z3 (iadd .i64 z4 (1 : Int)) z5 z6 z7 z8 z9 z10 z11 z12 z13 z14 z15 z16 z17 z18 z19 z20 z21 z22 z23 z24 z25 z26 z27 z28 z29 z30 z31 z32 z33 z34 z35 z36 z37 z38 z39 z40
 bif (decide (v5 < v4)) then
 match geti v3 v5 with
 | none => none
 | some x42 =>
 bif (decide ((((List.length x42.2.2.2.2.2.2) : Nat) : Int) > (70000 : Int))) then
 match c84 with
 | none => none
 | some r43 =>
 some r43
 else
 bif x42.2.1 then
 bif x42.2.2.1 then
 bif ((irem x42.1 (5 : Int)) == (0 : Int)) then
 S73_110 c84 d86v2 c93 c108 c23 d88v2 c94 d87v1 c95 d92v1 c112 d97v0 d92v2 d86v1 d88v1 d87v2 d92v3 d97v1 d92v0 N KK0 v1 v2 v3 v4 v5 v6 v7 v8 v9 v10 v11 v12 v13 v14 v15 v16 v17 v18 v19 v20 v21 v22 v23 v24 v25 v26 v27 v28 v29 v30 v31 v32 v33 v34 v35 v36 v37 v38 v39 v40 v41 x42
 else
 bif ((irem x42.1 (5 : Int)) == (1 : Int)) then
 S73_111 c84 d86v2 c93 c108 c23 d88v2 c94 d87v1 c95 d92v1 c112 d97v0 d92v2 d86v1 d88v1 d87v2 d92v3 d97v1 d92v0 N KK0 v1 v2 v3 v4 v5 v6 v7 v8 v9 v10 v11 v12 v13 v14 v15 v16 v17 v18 v19 v20 v21 v22 v23 v24 v25 v26 v27 v28 v29 v30 v31 v32 v33 v34 v35 v36 v37 v38 v39 v40 v41 x42
 else
 bif ((irem x42.1 (5 : Int)) == (2 : Int)) then
 S73_112 c84 d86v2 c93 c108 c23 d88v2 c94 d87v1 c95 d92v1 c112 d97v0 d92v2 d86v1 d88v1 d87v2 d92v3 d97v1 d92v0 N KK0 v1 v2 v3 v4 v5 v6 v7 v8 v9 v10 v11 v12 v13 v14 v15 v16 v17 v18 v19 v20 v21 v22 v23 v24 v25 v26 v27 v28 v29 v30 v31 v32 v33 v34 v35 v36 v37 v38 v39 v40 v41 x42
 else
 bif ((irem x42.1 (5 : Int)) == (3 : Int)) then
 S73_113 c84 d86v2 c93 c108 c23 d88v2 c94 d87v1 c95 d92v1 c112 d97v0 d92v2 d86v1 d88v1 d87v2 d92v3 d97v1 d92v0 N KK0 v1 v2 v3 v4 v5 v6 v7 v8 v9 v10 v11 v12 v13 v14 v15 v16 v17 v18 v19 v20 v21 v22 v23 v24 v25 v26 v27 v28 v29 v30 v31 v32 v33 v34 v35 v36 v37 v38 v39 v40 v41 x42
 else
 S73_114 c84 d86v2 c93 c108 c23 d88v2 c94 d87v1 c95 d92v1 c112 d97v0 d92v2 d86v1 d88v1 d87v2 d92v3 d97v1 d92v0 N KK0 v1 v2 v3 v4 v5 v6 v7 v8 v9 v10 v11 v12 v13 v14 v15 v16 v17 v18 v19 v20 v21 v22 v23 v24 v25 v26 v27 v28 v29 v30 v31 v32 v33 v34 v35 v36 v37 v38 v39 v40 v41 x42
 else
 bif ((irem x42.1 (5 : Int)) == (0 : Int)) then
 S73_100 c84 d86v2 c93 c108 c23 d88v2 c94 d87v1 c95 d92v1 c112 d97v0 d92v2 d86v1 d88v1 d87v2 d92v3 d97v1 d92v0 N KK0 v1 v2 v3 v4 v5 v6 v7 v8 v9 v10 v11 v12 v13 v14 v15 v16 v17 v18 v19 v20 v21 v22 v23 v24 v25 v26 v27 v28 v29 v30 v31 v32 v33 v34 v35 v36 v37 v38 v39 v40 v41 x42
 else
 bif ((irem x42.1 (5 : Int)) == (1 : Int)) then
 S73_101 c84 d86v2 c93 c108 c23 d88v2 c94 d87v1 c95 d92v1 c112 d97v0 d92v2 d86v1 d88v1 d87v2 d92v3 d97v1 d92v0 N KK0 v1 v2 v3 v4 v5 v6 v7 v8 v9 v10 v11 v12 v13 v14 v15 v16 v17 v18 v19 v20 v21 v22 v23 v24 v25 v26 v27 v28 v29 v30 v31 v32 v33 v34 v35 v36 v37 v38 v39 v40 v41 x42
 else
 bif ((irem x42.1 (5 : Int)) == (2 : Int)) then
 S73_102 c84 d86v2 c93 c108 c23 d88v2 c94 d87v1 c95 d92v1 c112 d97v0 d92v2 d86v1 d88v1 d87v2 d92v3 d97v1 d92v0 N KK0 v1 v2 v3 v4 v5 v6 v7 v8 v9 v10 v11 v12 v13 v14 v15 v16 v17 v18 v19 v20 v21 v22 v23 v24 v25 v26 v27 v28 v29 v30 v31 v32 v33 v34 v35 v36 v37 v38 v39 v40 v41 x42
 else
 bif ((irem x42.1 (5 : Int)) == (3 : Int)) then
 S73_103 c84 d86v2 c93 c108 c23 d88v2 c94 d87v1 c95 d92v1 c112 d97v0 d92v2 d86v1 d88v1 d87v2 d92v3 d97v1 d92v0 N KK0 v1 v2 v3 v4 v5 v6 v7 v8 v9 v10 v11 v12 v13 v14 v15 v16 v17 v18 v19 v20 v21 v22 v23 v24 v25 v26 v27 v28 v29 v30 v31 v32 v33 v34 v35 v36 v37 v38 v39 v40 v41 x42
 else
 S73_104 c84 d86v2 c93 c108 c23 d88v2 c94 d87v1 c95 d92v1 c112 d97v0 d92v2 d86v1 d88v1 d87v2 d92v3 d97v1 d92v0 N KK0 v1 v2 v3 v4 v5 v6 v7 v8 v9 v10 v11 v12 v13 v14 v15 v16 v17 v18 v19 v20 v21 v22 v23 v24 v25 v26 v27 v28 v29 v30 v31 v32 v33 v34 v35 v36 v37 v38 v39 v40 v41 x42
 else
 bif x42.2.2.1 then
 bif ((irem x42.1 (5 : Int)) == (0 : Int)) then
 S73_010 c84 d86v2 c93 c108 c23 d88v2 c94 d87v1 c95 d92v1 c112 d97v0 d92v2 d86v1 d88v1 d87v2 d92v3 d97v1 d92v0 N KK0 v1 v2 v3 v4 v5 v6 v7 v8 v9 v10 v11 v12 v13 v14 v15 v16 v17 v18 v19 v20 v21 v22 v23 v24 v25 v26 v27 v28 v29 v30 v31 v32 v33 v34 v35 v36 v37 v38 v39 v40 v41 x42
 else
 bif ((irem x42.1 (5 : Int)) == (1 : Int)) then
 S73_011 c84 d86v2 c93 c108 c23 d88v2 c94 d87v1 c95 d92v1 c112 d97v0 d92v2 d86v1 d88v1 d87v2 d92v3 d97v1 d92v0 N KK0 v1 v2 v3 v4 v5 v6 v7 v8 v9 v10 v11 v12 v13 v14 v15 v16 v17 v18 v19 v20 v21 v22 v23 v24 v25 v26 v27 v28 v29 v30 v31 v32 v33 v34 v35 v36 v37 v38 v39 v40 v41 x42
 else
 bif ((irem x42.1 (5 : Int)) == (2 : Int)) then
 S73_012 c84 d86v2 c93 c108 c23 d88v2 c94 d87v1 c95 d92v1 c112 d97v0 d92v2 d86v1 d88v1 d87v2 d92v3 d97v1 d92v0 N KK0 v1 v2 v3 v4 v5 v6 v7 v8 v9 v10 v11 v12 v13 v14 v15 v16 v17 v18 v19 v20 v21 v22 v23 v24 v25 v26 v27 v28 v29 v30 v31 v32 v33 v34 v35 v36 v37 v38 v39 v40 v41 x42
 else
 bif ((irem x42.1 (5 : Int)) == (3 : Int)) then
 S73_013 c84 d86v2 c93 c108 c23 d88v2 c94 d87v1 c95 d92v1 c112 d97v0 d92v2 d86v1 d88v1 d87v2 d92v3 d97v1 d92v0 N KK0 v1 v2 v3 v4 v5 v6 v7 v8 v9 v10 v11 v12 v13 v14 v15 v16 v17 v18 v19 v20 v21 v22 v23 v24 v25 v26 v27 v28 v29 v30 v31 v32 v33 v34 v35 v36 v37 v38 v39 v40 v41 x42
 else
 S73_014 c84 d86v2 c93 c108 c23 d88v2 c94 d87v1 c95 d92v1 c112 d97v0 d92v2 d86v1 d88v1 d87v2 d92v3 d97v1 d92v0 N KK0 v1 v2 v3 v4 v5 v6 v7 v8 v9 v10 v11 v12 v13 v14 v15 v16 v17 v18 v19 v20 v21 v22 v23 v24 v25 v26 v27 v28 v29 v30 v31 v32 v33 v34 v35 v36 v37 v38 v39 v40 v41 x42
 else
 bif ((irem x42.1 (5 : Int)) == (0 : Int)) then
 S73_000 c84 d86v2 c93 c108 c23 d88v2 c94 d87v1 c95 d92v1 c112 d97v0 d92v2 d86v1 d88v1 d87v2 d92v3 d97v1 d92v0 N KK0 v1 v2 v3 v4 v5 v6 v7 v8 v9 v10 v11 v12 v13 v14 v15 v16 v17 v18 v19 v20 v21 v22 v23 v24 v25 v26 v27 v28 v29 v30 v31 v32 v33 v34 v35 v36 v37 v38 v39 v40 v41 x42
 else
 bif ((irem x42.1 (5 : Int)) == (1 : Int)) then
 S73_001 c84 d86v2 c93 c108 c23 d88v2 c94 d87v1 c95 d92v1 c112 d97v0 d92v2 d86v1 d88v1 d87v2 d92v3 d97v1 d92v0 N KK0 v1 v2 v3 v4 v5 v6 v7 v8 v9 v10 v11 v12 v13 v14 v15 v16 v17 v18 v19 v20 v21 v22 v23 v24 v25 v26 v27 v28 v29 v30 v31 v32 v33 v34 v35 v36 v37 v38 v39 v40 v41 x42
 else
 bif ((irem x42.1 (5 : Int)) == (2 : Int)) then
 S73_002 c84 d86v2 c93 c108 c23 d88v2 c94 d87v1 c95 d92v1 c112 d97v0 d92v2 d86v1 d88v1 d87v2 d92v3 d97v1 d92v0 N KK0 v1 v2 v3 v4 v5 v6 v7 v8 v9 v10 v11 v12 v13 v14 v15 v16 v17 v18 v19 v20 v21 v22 v23 v24 v25 v26 v27 v28 v29 v30 v31 v32 v33 v34 v35 v36 v37 v38 v39 v40 v41 x42
 else
 bif ((irem x42.1 (5 : Int)) == (3 : Int)) then
 S73_003 c84 d86v2 c93 c108 c23 d88v2 c94 d87v1 c95 d92v1 c112 d97v0 d92v2 d86v1 d88v1 d87v2 d92v3 d97v1 d92v0 N KK0 v1 v2 v3 v4 v5 v6 v7 v8 v9 v10 v11 v12 v13 v14 v15 v16 v17 v18 v19 v20 v21 v22 v23 v24 v25 v26 v27 v28 v29 v30 v31 v32 v33 v34 v35 v36 v37 v38 v39 v40 v41 x42
 else
 S73_004 c84 d86v2 c93 c108 c23 d88v2 c94 d87v1 c95 d92v1 c112 d97v0 d92v2 d86v1 d88v1 d87v2 d92v3 d97v1 d92v0 N KK0 v1 v2 v3 v4 v5 v6 v7 v8 v9 v10 v11 v12 v13 v14 v15 v16 v17 v18 v19 v20 v21 v22 v23 v24 v25 v26 v27 v28 v29 v30 v31 v32 v33 v34 v35 v36 v37 v38 v39 v40 v41 x42
 else
 q0_0
/-- euphroe/euphroelaw38.ChansPlay -/
def p73 (c84 : D84) (d86v2 : D86v2) (c93 : D93) (c108 : D108) (c23 : D23) (d88v2 : D88v2) (c94 : D94) (d87v1 : D87v1) (c95 : D95) (d92v1 : D92v1) (c112 : D112) (d97v0 : D97v0) (d92v2 : D92v2) (d86v1 : D86v1) (d88v1 : D88v1) (d87v2 : D87v2) (d92v3 : D92v3) (d97v1 : D97v1) (d92v0 : D92v0) (N : Nat) (a0 : List (Int × Bool × Bool × Int × Int × Int × (List Int))) : Option Bool :=
  bif ((decide ((0 : Int) ≤ (if (40 : Int) < (((List.length a0) : Nat) : Int) then (40 : Int) else (((List.length a0) : Nat) : Int)))) && (decide ((if (40 : Int) < (((List.length a0) : Nat) : Int) then (40 : Int) else (((List.length a0) : Nat) : Int)) ≤ (((List.length a0) : Nat) : Int)))) then
 L73_0 c84 d86v2 c93 c108 c23 d88v2 c94 d87v1 c95 d92v1 c112 d97v0 d92v2 d86v1 d88v1 d87v2 d92v3 d97v1 d92v0 N (
 match c84 with
 | none => none
 | some r2931 =>
 some r2931) N 2 2 (List.take (Int.toNat (if (40 : Int) < (((List.length a0) : Nat) : Int) then (40 : Int) else (((List.length a0) : Nat) : Int))) a0) (((List.length (List.take (Int.toNat (if (40 : Int) < (((List.length a0) : Nat) : Int) then (40 : Int) else (((List.length a0) : Nat) : Int))) a0)) : Nat) : Int) (0 : Int) ([] : List Int) (0 : Int) (0 : Int) (0 : Int) ([] : List Int) (0 : Int) (0 : Int) (0 : Int) false ([] : List Int) (0 : Int) (0 : Int) (0 : Int) ([] : List Int) (0 : Int) (0 : Int) (0 : Int) false ([] : List Int) (0 : Int) (0 : Int) (0 : Int) ([] : List Int) (0 : Int) (0 : Int) (0 : Int) false ([] : List Int) (0 : Int) (0 : Int) (0 : Int) ([] : List Int) (0 : Int) (0 : Int) (0 : Int) false
 else none
end Go.Proofs.YtcnkihdjenjdgaaE
