/- Chapter 38, ChansPlay: the law. Printed by gen/c38p.py. -/
import Derived.Test.YtcnkihdjenjdgaaEvC38V
namespace Go.Proofs.YtcnkihdjenjdgaaE
open Go
set_option linter.unusedSimpArgs false
set_option linter.unusedVariables false
set_option maxRecDepth 4000

def L0 (N : Nat) (q : Option Bool) (n : Nat) (l : List El) (z4 z5 : Int) (c0 c1 d0 d1 : Cc) : Option Bool :=
  L73_0 f84 h86 f93 f108 f23 h88 f94 h87 f95 h92s f112 h97 h92 h86 h88 h87 h92s h97 h92 N q n 2 2 l z4 z5 c0.1 c0.2.1 c0.2.2.1 c0.2.2.2.1 c0.2.2.2.2.1 c0.2.2.2.2.2.1 c0.2.2.2.2.2.2.1 c0.2.2.2.2.2.2.2.1 c0.2.2.2.2.2.2.2.2 c1.1 c1.2.1 c1.2.2.1 c1.2.2.2.1 c1.2.2.2.2.1 c1.2.2.2.2.2.1 c1.2.2.2.2.2.2.1 c1.2.2.2.2.2.2.2.1 c1.2.2.2.2.2.2.2.2 d0.1 d0.2.1 d0.2.2.1 d0.2.2.2.1 d0.2.2.2.2.1 d0.2.2.2.2.2.1 d0.2.2.2.2.2.2.1 d0.2.2.2.2.2.2.2.1 d0.2.2.2.2.2.2.2.2 d1.1 d1.2.1 d1.2.2.1 d1.2.2.2.1 d1.2.2.2.2.1 d1.2.2.2.2.2.1 d1.2.2.2.2.2.2.1 d1.2.2.2.2.2.2.2.1 d1.2.2.2.2.2.2.2.2
def KKf (N : Nat) (q : Option Bool) (n : Nat) : K73 := fun (z0 : Nat) (z1 : Nat) (z2 : List El) (z3 : Int) (z4 : Int) (z5 : List Int) (z6 : Int) (z7 : Int) (z8 : Int) (z9 : List Int) (z10 : Int) (z11 : Int) (z12 : Int) (z13 : Bool) (z14 : List Int) (z15 : Int) (z16 : Int) (z17 : Int) (z18 : List Int) (z19 : Int) (z20 : Int) (z21 : Int) (z22 : Bool) (z23 : List Int) (z24 : Int) (z25 : Int) (z26 : Int) (z27 : List Int) (z28 : Int) (z29 : Int) (z30 : Int) (z31 : Bool) (z32 : List Int) (z33 : Int) (z34 : Int) (z35 : Int) (z36 : List Int) (z37 : Int) (z38 : Int) (z39 : Int) (z40 : Bool) => L73_0 f84 h86 f93 f108 f23 h88 f94 h87 f95 h92s f112 h97 h92 h86 h88 h87 h92s h97 h92 N q n z0 z1 z2 z3 (iadd .i64 z4 1) z5 z6 z7 z8 z9 z10 z11 z12 z13 z14 z15 z16 z17 z18 z19 z20 z21 z22 z23 z24 z25 z26 z27 z28 z29 z30 z31 z32 z33 z34 z35 z36 z37 z38 z39 z40
theorem KKf_is (N : Nat) (q : Option Bool) (n : Nat) (l : List El) (z4 z5 : Int) (c0 c1 d0 d1 : Cc) : kk (KKf N q n) l z4 z5 c0 c1 d0 d1 = L0 N q n l z4 (iadd .i64 z5 1) c0 c1 d0 d1 := rfl
def kd11 (N : Nat) (KK : K73) (l : List El) (z4 z5 : Int) (c0 c1 : Cc) (x : El) : Option Bool :=
    bif ((irem x.1 5) == (0 : Int)) then S73_110 f84 h86 f93 f108 f23 h88 f94 h87 f95 h92s f112 h97 h92 h86 h88 h87 h92s h97 h92 N KK 2 2 l z4 z5 c0.1 c0.2.1 c0.2.2.1 c0.2.2.2.1 c0.2.2.2.2.1 c0.2.2.2.2.2.1 c0.2.2.2.2.2.2.1 c0.2.2.2.2.2.2.2.1 c0.2.2.2.2.2.2.2.2 c1.1 c1.2.1 c1.2.2.1 c1.2.2.2.1 c1.2.2.2.2.1 c1.2.2.2.2.2.1 c1.2.2.2.2.2.2.1 c1.2.2.2.2.2.2.2.1 c1.2.2.2.2.2.2.2.2 c0.1 c0.2.1 c0.2.2.1 c0.2.2.2.1 c0.2.2.2.2.1 c0.2.2.2.2.2.1 c0.2.2.2.2.2.2.1 c0.2.2.2.2.2.2.2.1 c0.2.2.2.2.2.2.2.2 c1.1 c1.2.1 c1.2.2.1 c1.2.2.2.1 c1.2.2.2.2.1 c1.2.2.2.2.2.1 c1.2.2.2.2.2.2.1 c1.2.2.2.2.2.2.2.1 c1.2.2.2.2.2.2.2.2 x else
    bif ((irem x.1 5) == (1 : Int)) then S73_111 f84 h86 f93 f108 f23 h88 f94 h87 f95 h92s f112 h97 h92 h86 h88 h87 h92s h97 h92 N KK 2 2 l z4 z5 c0.1 c0.2.1 c0.2.2.1 c0.2.2.2.1 c0.2.2.2.2.1 c0.2.2.2.2.2.1 c0.2.2.2.2.2.2.1 c0.2.2.2.2.2.2.2.1 c0.2.2.2.2.2.2.2.2 c1.1 c1.2.1 c1.2.2.1 c1.2.2.2.1 c1.2.2.2.2.1 c1.2.2.2.2.2.1 c1.2.2.2.2.2.2.1 c1.2.2.2.2.2.2.2.1 c1.2.2.2.2.2.2.2.2 c0.1 c0.2.1 c0.2.2.1 c0.2.2.2.1 c0.2.2.2.2.1 c0.2.2.2.2.2.1 c0.2.2.2.2.2.2.1 c0.2.2.2.2.2.2.2.1 c0.2.2.2.2.2.2.2.2 c1.1 c1.2.1 c1.2.2.1 c1.2.2.2.1 c1.2.2.2.2.1 c1.2.2.2.2.2.1 c1.2.2.2.2.2.2.1 c1.2.2.2.2.2.2.2.1 c1.2.2.2.2.2.2.2.2 x else
    bif ((irem x.1 5) == (2 : Int)) then S73_112 f84 h86 f93 f108 f23 h88 f94 h87 f95 h92s f112 h97 h92 h86 h88 h87 h92s h97 h92 N KK 2 2 l z4 z5 c0.1 c0.2.1 c0.2.2.1 c0.2.2.2.1 c0.2.2.2.2.1 c0.2.2.2.2.2.1 c0.2.2.2.2.2.2.1 c0.2.2.2.2.2.2.2.1 c0.2.2.2.2.2.2.2.2 c1.1 c1.2.1 c1.2.2.1 c1.2.2.2.1 c1.2.2.2.2.1 c1.2.2.2.2.2.1 c1.2.2.2.2.2.2.1 c1.2.2.2.2.2.2.2.1 c1.2.2.2.2.2.2.2.2 c0.1 c0.2.1 c0.2.2.1 c0.2.2.2.1 c0.2.2.2.2.1 c0.2.2.2.2.2.1 c0.2.2.2.2.2.2.1 c0.2.2.2.2.2.2.2.1 c0.2.2.2.2.2.2.2.2 c1.1 c1.2.1 c1.2.2.1 c1.2.2.2.1 c1.2.2.2.2.1 c1.2.2.2.2.2.1 c1.2.2.2.2.2.2.1 c1.2.2.2.2.2.2.2.1 c1.2.2.2.2.2.2.2.2 x else
    bif ((irem x.1 5) == (3 : Int)) then S73_113 f84 h86 f93 f108 f23 h88 f94 h87 f95 h92s f112 h97 h92 h86 h88 h87 h92s h97 h92 N KK 2 2 l z4 z5 c0.1 c0.2.1 c0.2.2.1 c0.2.2.2.1 c0.2.2.2.2.1 c0.2.2.2.2.2.1 c0.2.2.2.2.2.2.1 c0.2.2.2.2.2.2.2.1 c0.2.2.2.2.2.2.2.2 c1.1 c1.2.1 c1.2.2.1 c1.2.2.2.1 c1.2.2.2.2.1 c1.2.2.2.2.2.1 c1.2.2.2.2.2.2.1 c1.2.2.2.2.2.2.2.1 c1.2.2.2.2.2.2.2.2 c0.1 c0.2.1 c0.2.2.1 c0.2.2.2.1 c0.2.2.2.2.1 c0.2.2.2.2.2.1 c0.2.2.2.2.2.2.1 c0.2.2.2.2.2.2.2.1 c0.2.2.2.2.2.2.2.2 c1.1 c1.2.1 c1.2.2.1 c1.2.2.2.1 c1.2.2.2.2.1 c1.2.2.2.2.2.1 c1.2.2.2.2.2.2.1 c1.2.2.2.2.2.2.2.1 c1.2.2.2.2.2.2.2.2 x else
    S73_114 f84 h86 f93 f108 f23 h88 f94 h87 f95 h92s f112 h97 h92 h86 h88 h87 h92s h97 h92 N KK 2 2 l z4 z5 c0.1 c0.2.1 c0.2.2.1 c0.2.2.2.1 c0.2.2.2.2.1 c0.2.2.2.2.2.1 c0.2.2.2.2.2.2.1 c0.2.2.2.2.2.2.2.1 c0.2.2.2.2.2.2.2.2 c1.1 c1.2.1 c1.2.2.1 c1.2.2.2.1 c1.2.2.2.2.1 c1.2.2.2.2.2.1 c1.2.2.2.2.2.2.1 c1.2.2.2.2.2.2.2.1 c1.2.2.2.2.2.2.2.2 c0.1 c0.2.1 c0.2.2.1 c0.2.2.2.1 c0.2.2.2.2.1 c0.2.2.2.2.2.1 c0.2.2.2.2.2.2.1 c0.2.2.2.2.2.2.2.1 c0.2.2.2.2.2.2.2.2 c1.1 c1.2.1 c1.2.2.1 c1.2.2.2.1 c1.2.2.2.2.1 c1.2.2.2.2.2.1 c1.2.2.2.2.2.2.1 c1.2.2.2.2.2.2.2.1 c1.2.2.2.2.2.2.2.2 x
theorem kd11_is {N : Nat} (hN : 3 ≤ N) (KK : K73) (l : List El) (z4 z5 : Int) {c0 c1 : Cc} (h0 : okC c0) (h1 : okC c1) (x : El) (hb : x.2.2.2.2.2.2.length ≤ 70000) : ∃ c0' c1', okC c0' ∧ okC c1' ∧ kd11 N KK l z4 z5 c0 c1 x = kk KK l z4 z5 c0' c1' c0' c1' := by
  obtain ⟨k, sec, bo, w, o, n, b⟩ := x
  unfold kd11
  simp only []
  cases e0 : (irem k 5 == (0 : Int)) with
  | true => rw [cond_true]; exact s110 hN KK l z4 z5 h0 h1 k sec bo w o n hb
  | false =>
  cases e1 : (irem k 5 == (1 : Int)) with
  | true => rw [cond_false, cond_true]; exact s111 hN KK l z4 z5 h0 h1 k sec bo w o n hb
  | false =>
  cases e2 : (irem k 5 == (2 : Int)) with
  | true => rw [cond_false, cond_false, cond_true]; exact s112 hN KK l z4 z5 h0 h1 k sec bo w o n hb
  | false =>
  cases e3 : (irem k 5 == (3 : Int)) with
  | true => rw [cond_false, cond_false, cond_false, cond_true]; exact s113 hN KK l z4 z5 h0 h1 k sec bo w o n hb
  | false => rw [cond_false, cond_false, cond_false, cond_false]; exact s114 hN KK l z4 z5 h0 h1 k sec bo w o n hb
def kd10 (N : Nat) (KK : K73) (l : List El) (z4 z5 : Int) (c0 c1 : Cc) (x : El) : Option Bool :=
    bif ((irem x.1 5) == (0 : Int)) then S73_100 f84 h86 f93 f108 f23 h88 f94 h87 f95 h92s f112 h97 h92 h86 h88 h87 h92s h97 h92 N KK 2 2 l z4 z5 c0.1 c0.2.1 c0.2.2.1 c0.2.2.2.1 c0.2.2.2.2.1 c0.2.2.2.2.2.1 c0.2.2.2.2.2.2.1 c0.2.2.2.2.2.2.2.1 c0.2.2.2.2.2.2.2.2 c1.1 c1.2.1 c1.2.2.1 c1.2.2.2.1 c1.2.2.2.2.1 c1.2.2.2.2.2.1 c1.2.2.2.2.2.2.1 c1.2.2.2.2.2.2.2.1 c1.2.2.2.2.2.2.2.2 c0.1 c0.2.1 c0.2.2.1 c0.2.2.2.1 c0.2.2.2.2.1 c0.2.2.2.2.2.1 c0.2.2.2.2.2.2.1 c0.2.2.2.2.2.2.2.1 c0.2.2.2.2.2.2.2.2 c1.1 c1.2.1 c1.2.2.1 c1.2.2.2.1 c1.2.2.2.2.1 c1.2.2.2.2.2.1 c1.2.2.2.2.2.2.1 c1.2.2.2.2.2.2.2.1 c1.2.2.2.2.2.2.2.2 x else
    bif ((irem x.1 5) == (1 : Int)) then S73_101 f84 h86 f93 f108 f23 h88 f94 h87 f95 h92s f112 h97 h92 h86 h88 h87 h92s h97 h92 N KK 2 2 l z4 z5 c0.1 c0.2.1 c0.2.2.1 c0.2.2.2.1 c0.2.2.2.2.1 c0.2.2.2.2.2.1 c0.2.2.2.2.2.2.1 c0.2.2.2.2.2.2.2.1 c0.2.2.2.2.2.2.2.2 c1.1 c1.2.1 c1.2.2.1 c1.2.2.2.1 c1.2.2.2.2.1 c1.2.2.2.2.2.1 c1.2.2.2.2.2.2.1 c1.2.2.2.2.2.2.2.1 c1.2.2.2.2.2.2.2.2 c0.1 c0.2.1 c0.2.2.1 c0.2.2.2.1 c0.2.2.2.2.1 c0.2.2.2.2.2.1 c0.2.2.2.2.2.2.1 c0.2.2.2.2.2.2.2.1 c0.2.2.2.2.2.2.2.2 c1.1 c1.2.1 c1.2.2.1 c1.2.2.2.1 c1.2.2.2.2.1 c1.2.2.2.2.2.1 c1.2.2.2.2.2.2.1 c1.2.2.2.2.2.2.2.1 c1.2.2.2.2.2.2.2.2 x else
    bif ((irem x.1 5) == (2 : Int)) then S73_102 f84 h86 f93 f108 f23 h88 f94 h87 f95 h92s f112 h97 h92 h86 h88 h87 h92s h97 h92 N KK 2 2 l z4 z5 c0.1 c0.2.1 c0.2.2.1 c0.2.2.2.1 c0.2.2.2.2.1 c0.2.2.2.2.2.1 c0.2.2.2.2.2.2.1 c0.2.2.2.2.2.2.2.1 c0.2.2.2.2.2.2.2.2 c1.1 c1.2.1 c1.2.2.1 c1.2.2.2.1 c1.2.2.2.2.1 c1.2.2.2.2.2.1 c1.2.2.2.2.2.2.1 c1.2.2.2.2.2.2.2.1 c1.2.2.2.2.2.2.2.2 c0.1 c0.2.1 c0.2.2.1 c0.2.2.2.1 c0.2.2.2.2.1 c0.2.2.2.2.2.1 c0.2.2.2.2.2.2.1 c0.2.2.2.2.2.2.2.1 c0.2.2.2.2.2.2.2.2 c1.1 c1.2.1 c1.2.2.1 c1.2.2.2.1 c1.2.2.2.2.1 c1.2.2.2.2.2.1 c1.2.2.2.2.2.2.1 c1.2.2.2.2.2.2.2.1 c1.2.2.2.2.2.2.2.2 x else
    bif ((irem x.1 5) == (3 : Int)) then S73_103 f84 h86 f93 f108 f23 h88 f94 h87 f95 h92s f112 h97 h92 h86 h88 h87 h92s h97 h92 N KK 2 2 l z4 z5 c0.1 c0.2.1 c0.2.2.1 c0.2.2.2.1 c0.2.2.2.2.1 c0.2.2.2.2.2.1 c0.2.2.2.2.2.2.1 c0.2.2.2.2.2.2.2.1 c0.2.2.2.2.2.2.2.2 c1.1 c1.2.1 c1.2.2.1 c1.2.2.2.1 c1.2.2.2.2.1 c1.2.2.2.2.2.1 c1.2.2.2.2.2.2.1 c1.2.2.2.2.2.2.2.1 c1.2.2.2.2.2.2.2.2 c0.1 c0.2.1 c0.2.2.1 c0.2.2.2.1 c0.2.2.2.2.1 c0.2.2.2.2.2.1 c0.2.2.2.2.2.2.1 c0.2.2.2.2.2.2.2.1 c0.2.2.2.2.2.2.2.2 c1.1 c1.2.1 c1.2.2.1 c1.2.2.2.1 c1.2.2.2.2.1 c1.2.2.2.2.2.1 c1.2.2.2.2.2.2.1 c1.2.2.2.2.2.2.2.1 c1.2.2.2.2.2.2.2.2 x else
    S73_104 f84 h86 f93 f108 f23 h88 f94 h87 f95 h92s f112 h97 h92 h86 h88 h87 h92s h97 h92 N KK 2 2 l z4 z5 c0.1 c0.2.1 c0.2.2.1 c0.2.2.2.1 c0.2.2.2.2.1 c0.2.2.2.2.2.1 c0.2.2.2.2.2.2.1 c0.2.2.2.2.2.2.2.1 c0.2.2.2.2.2.2.2.2 c1.1 c1.2.1 c1.2.2.1 c1.2.2.2.1 c1.2.2.2.2.1 c1.2.2.2.2.2.1 c1.2.2.2.2.2.2.1 c1.2.2.2.2.2.2.2.1 c1.2.2.2.2.2.2.2.2 c0.1 c0.2.1 c0.2.2.1 c0.2.2.2.1 c0.2.2.2.2.1 c0.2.2.2.2.2.1 c0.2.2.2.2.2.2.1 c0.2.2.2.2.2.2.2.1 c0.2.2.2.2.2.2.2.2 c1.1 c1.2.1 c1.2.2.1 c1.2.2.2.1 c1.2.2.2.2.1 c1.2.2.2.2.2.1 c1.2.2.2.2.2.2.1 c1.2.2.2.2.2.2.2.1 c1.2.2.2.2.2.2.2.2 x
theorem kd10_is {N : Nat} (hN : 3 ≤ N) (KK : K73) (l : List El) (z4 z5 : Int) {c0 c1 : Cc} (h0 : okC c0) (h1 : okC c1) (x : El) (hb : x.2.2.2.2.2.2.length ≤ 70000) : ∃ c0' c1', okC c0' ∧ okC c1' ∧ kd10 N KK l z4 z5 c0 c1 x = kk KK l z4 z5 c0' c1' c0' c1' := by
  obtain ⟨k, sec, bo, w, o, n, b⟩ := x
  unfold kd10
  simp only []
  cases e0 : (irem k 5 == (0 : Int)) with
  | true => rw [cond_true]; exact s100 hN KK l z4 z5 h0 h1 k sec bo w o n hb
  | false =>
  cases e1 : (irem k 5 == (1 : Int)) with
  | true => rw [cond_false, cond_true]; exact s101 hN KK l z4 z5 h0 h1 k sec bo w o n hb
  | false =>
  cases e2 : (irem k 5 == (2 : Int)) with
  | true => rw [cond_false, cond_false, cond_true]; exact s102 hN KK l z4 z5 h0 h1 k sec bo w o n hb
  | false =>
  cases e3 : (irem k 5 == (3 : Int)) with
  | true => rw [cond_false, cond_false, cond_false, cond_true]; exact s103 hN KK l z4 z5 h0 h1 k sec bo w o n hb
  | false => rw [cond_false, cond_false, cond_false, cond_false]; exact s104 hN KK l z4 z5 h0 h1 k sec bo w o n hb
def kd01 (N : Nat) (KK : K73) (l : List El) (z4 z5 : Int) (c0 c1 : Cc) (x : El) : Option Bool :=
    bif ((irem x.1 5) == (0 : Int)) then S73_010 f84 h86 f93 f108 f23 h88 f94 h87 f95 h92s f112 h97 h92 h86 h88 h87 h92s h97 h92 N KK 2 2 l z4 z5 c0.1 c0.2.1 c0.2.2.1 c0.2.2.2.1 c0.2.2.2.2.1 c0.2.2.2.2.2.1 c0.2.2.2.2.2.2.1 c0.2.2.2.2.2.2.2.1 c0.2.2.2.2.2.2.2.2 c1.1 c1.2.1 c1.2.2.1 c1.2.2.2.1 c1.2.2.2.2.1 c1.2.2.2.2.2.1 c1.2.2.2.2.2.2.1 c1.2.2.2.2.2.2.2.1 c1.2.2.2.2.2.2.2.2 c0.1 c0.2.1 c0.2.2.1 c0.2.2.2.1 c0.2.2.2.2.1 c0.2.2.2.2.2.1 c0.2.2.2.2.2.2.1 c0.2.2.2.2.2.2.2.1 c0.2.2.2.2.2.2.2.2 c1.1 c1.2.1 c1.2.2.1 c1.2.2.2.1 c1.2.2.2.2.1 c1.2.2.2.2.2.1 c1.2.2.2.2.2.2.1 c1.2.2.2.2.2.2.2.1 c1.2.2.2.2.2.2.2.2 x else
    bif ((irem x.1 5) == (1 : Int)) then S73_011 f84 h86 f93 f108 f23 h88 f94 h87 f95 h92s f112 h97 h92 h86 h88 h87 h92s h97 h92 N KK 2 2 l z4 z5 c0.1 c0.2.1 c0.2.2.1 c0.2.2.2.1 c0.2.2.2.2.1 c0.2.2.2.2.2.1 c0.2.2.2.2.2.2.1 c0.2.2.2.2.2.2.2.1 c0.2.2.2.2.2.2.2.2 c1.1 c1.2.1 c1.2.2.1 c1.2.2.2.1 c1.2.2.2.2.1 c1.2.2.2.2.2.1 c1.2.2.2.2.2.2.1 c1.2.2.2.2.2.2.2.1 c1.2.2.2.2.2.2.2.2 c0.1 c0.2.1 c0.2.2.1 c0.2.2.2.1 c0.2.2.2.2.1 c0.2.2.2.2.2.1 c0.2.2.2.2.2.2.1 c0.2.2.2.2.2.2.2.1 c0.2.2.2.2.2.2.2.2 c1.1 c1.2.1 c1.2.2.1 c1.2.2.2.1 c1.2.2.2.2.1 c1.2.2.2.2.2.1 c1.2.2.2.2.2.2.1 c1.2.2.2.2.2.2.2.1 c1.2.2.2.2.2.2.2.2 x else
    bif ((irem x.1 5) == (2 : Int)) then S73_012 f84 h86 f93 f108 f23 h88 f94 h87 f95 h92s f112 h97 h92 h86 h88 h87 h92s h97 h92 N KK 2 2 l z4 z5 c0.1 c0.2.1 c0.2.2.1 c0.2.2.2.1 c0.2.2.2.2.1 c0.2.2.2.2.2.1 c0.2.2.2.2.2.2.1 c0.2.2.2.2.2.2.2.1 c0.2.2.2.2.2.2.2.2 c1.1 c1.2.1 c1.2.2.1 c1.2.2.2.1 c1.2.2.2.2.1 c1.2.2.2.2.2.1 c1.2.2.2.2.2.2.1 c1.2.2.2.2.2.2.2.1 c1.2.2.2.2.2.2.2.2 c0.1 c0.2.1 c0.2.2.1 c0.2.2.2.1 c0.2.2.2.2.1 c0.2.2.2.2.2.1 c0.2.2.2.2.2.2.1 c0.2.2.2.2.2.2.2.1 c0.2.2.2.2.2.2.2.2 c1.1 c1.2.1 c1.2.2.1 c1.2.2.2.1 c1.2.2.2.2.1 c1.2.2.2.2.2.1 c1.2.2.2.2.2.2.1 c1.2.2.2.2.2.2.2.1 c1.2.2.2.2.2.2.2.2 x else
    bif ((irem x.1 5) == (3 : Int)) then S73_013 f84 h86 f93 f108 f23 h88 f94 h87 f95 h92s f112 h97 h92 h86 h88 h87 h92s h97 h92 N KK 2 2 l z4 z5 c0.1 c0.2.1 c0.2.2.1 c0.2.2.2.1 c0.2.2.2.2.1 c0.2.2.2.2.2.1 c0.2.2.2.2.2.2.1 c0.2.2.2.2.2.2.2.1 c0.2.2.2.2.2.2.2.2 c1.1 c1.2.1 c1.2.2.1 c1.2.2.2.1 c1.2.2.2.2.1 c1.2.2.2.2.2.1 c1.2.2.2.2.2.2.1 c1.2.2.2.2.2.2.2.1 c1.2.2.2.2.2.2.2.2 c0.1 c0.2.1 c0.2.2.1 c0.2.2.2.1 c0.2.2.2.2.1 c0.2.2.2.2.2.1 c0.2.2.2.2.2.2.1 c0.2.2.2.2.2.2.2.1 c0.2.2.2.2.2.2.2.2 c1.1 c1.2.1 c1.2.2.1 c1.2.2.2.1 c1.2.2.2.2.1 c1.2.2.2.2.2.1 c1.2.2.2.2.2.2.1 c1.2.2.2.2.2.2.2.1 c1.2.2.2.2.2.2.2.2 x else
    S73_014 f84 h86 f93 f108 f23 h88 f94 h87 f95 h92s f112 h97 h92 h86 h88 h87 h92s h97 h92 N KK 2 2 l z4 z5 c0.1 c0.2.1 c0.2.2.1 c0.2.2.2.1 c0.2.2.2.2.1 c0.2.2.2.2.2.1 c0.2.2.2.2.2.2.1 c0.2.2.2.2.2.2.2.1 c0.2.2.2.2.2.2.2.2 c1.1 c1.2.1 c1.2.2.1 c1.2.2.2.1 c1.2.2.2.2.1 c1.2.2.2.2.2.1 c1.2.2.2.2.2.2.1 c1.2.2.2.2.2.2.2.1 c1.2.2.2.2.2.2.2.2 c0.1 c0.2.1 c0.2.2.1 c0.2.2.2.1 c0.2.2.2.2.1 c0.2.2.2.2.2.1 c0.2.2.2.2.2.2.1 c0.2.2.2.2.2.2.2.1 c0.2.2.2.2.2.2.2.2 c1.1 c1.2.1 c1.2.2.1 c1.2.2.2.1 c1.2.2.2.2.1 c1.2.2.2.2.2.1 c1.2.2.2.2.2.2.1 c1.2.2.2.2.2.2.2.1 c1.2.2.2.2.2.2.2.2 x
theorem kd01_is {N : Nat} (hN : 3 ≤ N) (KK : K73) (l : List El) (z4 z5 : Int) {c0 c1 : Cc} (h0 : okC c0) (h1 : okC c1) (x : El) (hb : x.2.2.2.2.2.2.length ≤ 70000) : ∃ c0' c1', okC c0' ∧ okC c1' ∧ kd01 N KK l z4 z5 c0 c1 x = kk KK l z4 z5 c0' c1' c0' c1' := by
  obtain ⟨k, sec, bo, w, o, n, b⟩ := x
  unfold kd01
  simp only []
  cases e0 : (irem k 5 == (0 : Int)) with
  | true => rw [cond_true]; exact s010 hN KK l z4 z5 h0 h1 k sec bo w o n hb
  | false =>
  cases e1 : (irem k 5 == (1 : Int)) with
  | true => rw [cond_false, cond_true]; exact s011 hN KK l z4 z5 h0 h1 k sec bo w o n hb
  | false =>
  cases e2 : (irem k 5 == (2 : Int)) with
  | true => rw [cond_false, cond_false, cond_true]; exact s012 hN KK l z4 z5 h0 h1 k sec bo w o n hb
  | false =>
  cases e3 : (irem k 5 == (3 : Int)) with
  | true => rw [cond_false, cond_false, cond_false, cond_true]; exact s013 hN KK l z4 z5 h0 h1 k sec bo w o n hb
  | false => rw [cond_false, cond_false, cond_false, cond_false]; exact s014 hN KK l z4 z5 h0 h1 k sec bo w o n hb
def kd00 (N : Nat) (KK : K73) (l : List El) (z4 z5 : Int) (c0 c1 : Cc) (x : El) : Option Bool :=
    bif ((irem x.1 5) == (0 : Int)) then S73_000 f84 h86 f93 f108 f23 h88 f94 h87 f95 h92s f112 h97 h92 h86 h88 h87 h92s h97 h92 N KK 2 2 l z4 z5 c0.1 c0.2.1 c0.2.2.1 c0.2.2.2.1 c0.2.2.2.2.1 c0.2.2.2.2.2.1 c0.2.2.2.2.2.2.1 c0.2.2.2.2.2.2.2.1 c0.2.2.2.2.2.2.2.2 c1.1 c1.2.1 c1.2.2.1 c1.2.2.2.1 c1.2.2.2.2.1 c1.2.2.2.2.2.1 c1.2.2.2.2.2.2.1 c1.2.2.2.2.2.2.2.1 c1.2.2.2.2.2.2.2.2 c0.1 c0.2.1 c0.2.2.1 c0.2.2.2.1 c0.2.2.2.2.1 c0.2.2.2.2.2.1 c0.2.2.2.2.2.2.1 c0.2.2.2.2.2.2.2.1 c0.2.2.2.2.2.2.2.2 c1.1 c1.2.1 c1.2.2.1 c1.2.2.2.1 c1.2.2.2.2.1 c1.2.2.2.2.2.1 c1.2.2.2.2.2.2.1 c1.2.2.2.2.2.2.2.1 c1.2.2.2.2.2.2.2.2 x else
    bif ((irem x.1 5) == (1 : Int)) then S73_001 f84 h86 f93 f108 f23 h88 f94 h87 f95 h92s f112 h97 h92 h86 h88 h87 h92s h97 h92 N KK 2 2 l z4 z5 c0.1 c0.2.1 c0.2.2.1 c0.2.2.2.1 c0.2.2.2.2.1 c0.2.2.2.2.2.1 c0.2.2.2.2.2.2.1 c0.2.2.2.2.2.2.2.1 c0.2.2.2.2.2.2.2.2 c1.1 c1.2.1 c1.2.2.1 c1.2.2.2.1 c1.2.2.2.2.1 c1.2.2.2.2.2.1 c1.2.2.2.2.2.2.1 c1.2.2.2.2.2.2.2.1 c1.2.2.2.2.2.2.2.2 c0.1 c0.2.1 c0.2.2.1 c0.2.2.2.1 c0.2.2.2.2.1 c0.2.2.2.2.2.1 c0.2.2.2.2.2.2.1 c0.2.2.2.2.2.2.2.1 c0.2.2.2.2.2.2.2.2 c1.1 c1.2.1 c1.2.2.1 c1.2.2.2.1 c1.2.2.2.2.1 c1.2.2.2.2.2.1 c1.2.2.2.2.2.2.1 c1.2.2.2.2.2.2.2.1 c1.2.2.2.2.2.2.2.2 x else
    bif ((irem x.1 5) == (2 : Int)) then S73_002 f84 h86 f93 f108 f23 h88 f94 h87 f95 h92s f112 h97 h92 h86 h88 h87 h92s h97 h92 N KK 2 2 l z4 z5 c0.1 c0.2.1 c0.2.2.1 c0.2.2.2.1 c0.2.2.2.2.1 c0.2.2.2.2.2.1 c0.2.2.2.2.2.2.1 c0.2.2.2.2.2.2.2.1 c0.2.2.2.2.2.2.2.2 c1.1 c1.2.1 c1.2.2.1 c1.2.2.2.1 c1.2.2.2.2.1 c1.2.2.2.2.2.1 c1.2.2.2.2.2.2.1 c1.2.2.2.2.2.2.2.1 c1.2.2.2.2.2.2.2.2 c0.1 c0.2.1 c0.2.2.1 c0.2.2.2.1 c0.2.2.2.2.1 c0.2.2.2.2.2.1 c0.2.2.2.2.2.2.1 c0.2.2.2.2.2.2.2.1 c0.2.2.2.2.2.2.2.2 c1.1 c1.2.1 c1.2.2.1 c1.2.2.2.1 c1.2.2.2.2.1 c1.2.2.2.2.2.1 c1.2.2.2.2.2.2.1 c1.2.2.2.2.2.2.2.1 c1.2.2.2.2.2.2.2.2 x else
    bif ((irem x.1 5) == (3 : Int)) then S73_003 f84 h86 f93 f108 f23 h88 f94 h87 f95 h92s f112 h97 h92 h86 h88 h87 h92s h97 h92 N KK 2 2 l z4 z5 c0.1 c0.2.1 c0.2.2.1 c0.2.2.2.1 c0.2.2.2.2.1 c0.2.2.2.2.2.1 c0.2.2.2.2.2.2.1 c0.2.2.2.2.2.2.2.1 c0.2.2.2.2.2.2.2.2 c1.1 c1.2.1 c1.2.2.1 c1.2.2.2.1 c1.2.2.2.2.1 c1.2.2.2.2.2.1 c1.2.2.2.2.2.2.1 c1.2.2.2.2.2.2.2.1 c1.2.2.2.2.2.2.2.2 c0.1 c0.2.1 c0.2.2.1 c0.2.2.2.1 c0.2.2.2.2.1 c0.2.2.2.2.2.1 c0.2.2.2.2.2.2.1 c0.2.2.2.2.2.2.2.1 c0.2.2.2.2.2.2.2.2 c1.1 c1.2.1 c1.2.2.1 c1.2.2.2.1 c1.2.2.2.2.1 c1.2.2.2.2.2.1 c1.2.2.2.2.2.2.1 c1.2.2.2.2.2.2.2.1 c1.2.2.2.2.2.2.2.2 x else
    S73_004 f84 h86 f93 f108 f23 h88 f94 h87 f95 h92s f112 h97 h92 h86 h88 h87 h92s h97 h92 N KK 2 2 l z4 z5 c0.1 c0.2.1 c0.2.2.1 c0.2.2.2.1 c0.2.2.2.2.1 c0.2.2.2.2.2.1 c0.2.2.2.2.2.2.1 c0.2.2.2.2.2.2.2.1 c0.2.2.2.2.2.2.2.2 c1.1 c1.2.1 c1.2.2.1 c1.2.2.2.1 c1.2.2.2.2.1 c1.2.2.2.2.2.1 c1.2.2.2.2.2.2.1 c1.2.2.2.2.2.2.2.1 c1.2.2.2.2.2.2.2.2 c0.1 c0.2.1 c0.2.2.1 c0.2.2.2.1 c0.2.2.2.2.1 c0.2.2.2.2.2.1 c0.2.2.2.2.2.2.1 c0.2.2.2.2.2.2.2.1 c0.2.2.2.2.2.2.2.2 c1.1 c1.2.1 c1.2.2.1 c1.2.2.2.1 c1.2.2.2.2.1 c1.2.2.2.2.2.1 c1.2.2.2.2.2.2.1 c1.2.2.2.2.2.2.2.1 c1.2.2.2.2.2.2.2.2 x
theorem kd00_is {N : Nat} (hN : 3 ≤ N) (KK : K73) (l : List El) (z4 z5 : Int) {c0 c1 : Cc} (h0 : okC c0) (h1 : okC c1) (x : El) (hb : x.2.2.2.2.2.2.length ≤ 70000) : ∃ c0' c1', okC c0' ∧ okC c1' ∧ kd00 N KK l z4 z5 c0 c1 x = kk KK l z4 z5 c0' c1' c0' c1' := by
  obtain ⟨k, sec, bo, w, o, n, b⟩ := x
  unfold kd00
  simp only []
  cases e0 : (irem k 5 == (0 : Int)) with
  | true => rw [cond_true]; exact s000 hN KK l z4 z5 h0 h1 k sec bo w o n hb
  | false =>
  cases e1 : (irem k 5 == (1 : Int)) with
  | true => rw [cond_false, cond_true]; exact s001 hN KK l z4 z5 h0 h1 k sec bo w o n hb
  | false =>
  cases e2 : (irem k 5 == (2 : Int)) with
  | true => rw [cond_false, cond_false, cond_true]; exact s002 hN KK l z4 z5 h0 h1 k sec bo w o n hb
  | false =>
  cases e3 : (irem k 5 == (3 : Int)) with
  | true => rw [cond_false, cond_false, cond_false, cond_true]; exact s003 hN KK l z4 z5 h0 h1 k sec bo w o n hb
  | false => rw [cond_false, cond_false, cond_false, cond_false]; exact s004 hN KK l z4 z5 h0 h1 k sec bo w o n hb
theorem L0_eq (N : Nat) (q : Option Bool) (n : Nat) (l : List El) (z4 z5 : Int) (c0 c1 : Cc) : L0 N q (n + 1) l z4 z5 c0 c1 c0 c1 = bif decide (z5 < z4) then (match geti l z5 with
  | none => none
  | some x => bif decide (((x.2.2.2.2.2.2.length : Nat) : Int) > 70000) then some true else bif x.2.1 then (bif x.2.2.1 then kd11 N (KKf N q n) l z4 z5 c0 c1 x else kd10 N (KKf N q n) l z4 z5 c0 c1 x) else (bif x.2.2.1 then kd01 N (KKf N q n) l z4 z5 c0 c1 x else kd00 N (KKf N q n) l z4 z5 c0 c1 x)) else q := by kernel_rfl
theorem any_lt {α : Type} (pre t : List α) (x : α) : decide (((pre.length : Nat) : Int) < (((pre ++ x :: t).length : Nat) : Int)) = true := by simp; omega
theorem any_end {α : Type} (pre : List α) : decide (((pre.length : Nat) : Int) < (((pre ++ ([] : List α)).length : Nat) : Int)) = false := by simp
theorem any_app {α : Type} (pre t : List α) (x : α) : pre ++ x :: t = pre ++ [x] ++ t := by simp
theorem any_inc {α : Type} (pre : List α) (x : α) (h : pre.length ≤ 100000) : iadd .i64 ((pre.length : Nat) : Int) 1 = (((pre ++ [x]).length : Nat) : Int) := by
  rw [show (pre ++ [x]).length = pre.length + 1 by simp]; exact addn (a := pre.length) (b := 1) (by omega)
theorem any_at {α : Type} (pre t : List α) (x : α) : geti (pre ++ x :: t) ((pre.length : Nat) : Int) = some x := by
  rw [geti_nat, List.getElem?_append_right (Nat.le_refl _), Nat.sub_self]; rfl
theorem L0_is {N : Nat} (hN : 3 ≤ N) : ∀ (t pre : List El) (fuel : Nat) (c0 c1 : Cc), okC c0 → okC c1 → t.length < fuel → pre.length + t.length ≤ 40 → L0 N (some true) fuel (pre ++ t) (((pre ++ t).length : Nat) : Int) ((pre.length : Nat) : Int) c0 c1 c0 c1 = some true
  | [], pre, fuel, c0, c1, h0, h1, hf, hp => by
    obtain ⟨m, rfl⟩ : ∃ m, fuel = m + 1 := ⟨fuel - 1, by simp at hf; omega⟩
    rw [L0_eq, any_end, cond_false]
  | x :: t, pre, fuel, c0, c1, h0, h1, hf, hp => by
    simp only [List.length_cons] at hf hp
    obtain ⟨m, rfl⟩ : ∃ m, fuel = m + 1 := ⟨fuel - 1, by omega⟩
    rw [L0_eq, any_lt, cond_true, any_at]
    simp only []
    by_cases hb : x.2.2.2.2.2.2.length ≤ 70000
    · rw [decide_eq_false (by omega), cond_false]
      have key : ∃ c0' c1', okC c0' ∧ okC c1' ∧ (bif x.2.1 then (bif x.2.2.1 then kd11 N (KKf N (some true) m) (pre ++ x :: t) (((pre ++ x :: t).length : Nat) : Int) ((pre.length : Nat) : Int) c0 c1 x else kd10 N (KKf N (some true) m) (pre ++ x :: t) (((pre ++ x :: t).length : Nat) : Int) ((pre.length : Nat) : Int) c0 c1 x) else (bif x.2.2.1 then kd01 N (KKf N (some true) m) (pre ++ x :: t) (((pre ++ x :: t).length : Nat) : Int) ((pre.length : Nat) : Int) c0 c1 x else kd00 N (KKf N (some true) m) (pre ++ x :: t) (((pre ++ x :: t).length : Nat) : Int) ((pre.length : Nat) : Int) c0 c1 x)) = kk (KKf N (some true) m) (pre ++ x :: t) (((pre ++ x :: t).length : Nat) : Int) ((pre.length : Nat) : Int) c0' c1' c0' c1' := by
        cases x.2.1 with
        | true =>
          cases x.2.2.1 with
          | true => exact kd11_is hN _ _ _ _ h0 h1 x hb
          | false => exact kd10_is hN _ _ _ _ h0 h1 x hb
        | false =>
          cases x.2.2.1 with
          | true => exact kd01_is hN _ _ _ _ h0 h1 x hb
          | false => exact kd00_is hN _ _ _ _ h0 h1 x hb
      obtain ⟨c0', c1', g0, g1, e⟩ := key
      rw [e, KKf_is, any_inc pre x (by omega), any_app]
      exact L0_is hN t (pre ++ [x]) m c0' c1' g0 g1 (by omega) (by rw [List.length_append, List.length_singleton]; omega)
    · rw [decide_eq_true (by omega), cond_true]
def f73 (l : List El) : Option Bool := p73 f84 h86 f93 f108 f23 h88 f94 h87 f95 h92s f112 h97 h92 h86 h88 h87 h92s h97 h92 100 l
abbrev cz : Cc := ([], (0, (0, (0, ([], (0, (0, (0, false))))))))
theorem okcz : okC cz := ⟨Nat.zero_le _, Nat.zero_le _⟩
theorem f73_eq (N : Nat) (l : List El) : p73 f84 h86 f93 f108 f23 h88 f94 h87 f95 h92s f112 h97 h92 h86 h88 h87 h92s h97 h92 N l = bif (decide ((0 : Int) ≤ (if (40 : Int) < ((l.length : Nat) : Int) then (40 : Int) else ((l.length : Nat) : Int))) && decide ((if (40 : Int) < ((l.length : Nat) : Int) then (40 : Int) else ((l.length : Nat) : Int)) ≤ ((l.length : Nat) : Int))) then L0 N (some true) N (List.take (Int.toNat (if (40 : Int) < ((l.length : Nat) : Int) then (40 : Int) else ((l.length : Nat) : Int))) l) (((List.take (Int.toNat (if (40 : Int) < ((l.length : Nat) : Int) then (40 : Int) else ((l.length : Nat) : Int))) l).length : Nat) : Int) 0 cz cz cz cz else none := by kernel_rfl
theorem f73_is (l : List El) : f73 l = some true := by
  unfold f73
  rw [f73_eq]
  have e : (if (40 : Int) < ((l.length : Nat) : Int) then (40 : Int) else ((l.length : Nat) : Int)) = ((min 40 l.length : Nat) : Int) := by split <;> omega
  rw [e, decide_eq_true (by omega), decide_eq_true (by omega), Bool.and_self, cond_true, Int.toNat_natCast]
  have hl : (l.take (min 40 l.length)).length ≤ 40 := by rw [List.length_take]; omega
  have h := L0_is (N := 100) (by decide) (l.take (min 40 l.length)) [] 100 cz cz okcz okcz (by omega) (by simp only [List.length_nil]; omega)
  rw [List.nil_append] at h
  exact h
theorem E73 : EntOK FT XT 73 (en73 f73) := ok73 f84 h86 f93 f108 f23 h88 f94 h87 f95 h92s f112 h97 h92 h86 h88 h87 h92s h97 h92 E84 E93 E108 E23 E94 E95 E112 Q86v2 Q88v2 Q87v1 Q92v1 Q97v0 Q92v2 Q86v1 Q88v1 Q87v2 Q92v3 Q97v1 Q92v0 fun _ _ h => ⟨100, h⟩
theorem law73 (z0 : List El) (h0 : okD (Sh.sl (Sh.pr (Sh.int .u8) (Sh.pr Sh.bool (Sh.pr Sh.bool (Sh.pr (Sh.int .i64) (Sh.pr (Sh.int .i64) (Sh.pr (Sh.int .i64) (Sh.sl (Sh.int .u8))))))))) z0) : Ans FT XT 73 (encL [Sh.sl (Sh.pr (Sh.int .u8) (Sh.pr Sh.bool (Sh.pr Sh.bool (Sh.pr (Sh.int .i64) (Sh.pr (Sh.int .i64) (Sh.pr (Sh.int .i64) (Sh.sl (Sh.int .u8)))))))) ] (z0, ())) [] (.bool true) [] :=
  E73.2 (z0, ()) true (f73_is z0)
end Go.Proofs.YtcnkihdjenjdgaaE
