/- Chapter 38, ChansPlay: the loops, the law. Printed by gen/c38p.py. -/
import Derived.Test.YtcnkihdjenjdgaaEvC38Q
namespace Go.Proofs.YtcnkihdjenjdgaaE
open Go
set_option linter.unusedSimpArgs false
set_option linter.unusedVariables false
set_option maxRecDepth 4000

abbrev El : Type := Int × Bool × Bool × Int × Int × Int × (List Int)
def Mm (N : Nat) (KK : K73) (l : List El) (z4 z5 : Int) (c0 c1 d0 d1 : Cc) : Option Bool :=
  L73_1 f84 h86 f93 f108 f23 h88 f94 h87 f95 h92s f112 h97 h92 h86 h88 h87 h92s h97 h92 N KK N 2 2 l z4 z5 2 2 2 0 c0.1 c0.2.1 c0.2.2.1 c0.2.2.2.1 c0.2.2.2.2.1 c0.2.2.2.2.2.1 c0.2.2.2.2.2.2.1 c0.2.2.2.2.2.2.2.1 c0.2.2.2.2.2.2.2.2 c1.1 c1.2.1 c1.2.2.1 c1.2.2.2.1 c1.2.2.2.2.1 c1.2.2.2.2.2.1 c1.2.2.2.2.2.2.1 c1.2.2.2.2.2.2.2.1 c1.2.2.2.2.2.2.2.2 d0.1 d0.2.1 d0.2.2.1 d0.2.2.2.1 d0.2.2.2.2.1 d0.2.2.2.2.2.1 d0.2.2.2.2.2.2.1 d0.2.2.2.2.2.2.2.1 d0.2.2.2.2.2.2.2.2 d1.1 d1.2.1 d1.2.2.1 d1.2.2.2.1 d1.2.2.2.2.1 d1.2.2.2.2.2.1 d1.2.2.2.2.2.2.1 d1.2.2.2.2.2.2.2.1 d1.2.2.2.2.2.2.2.2
def M2 (N : Nat) (KK : K73) (m : Nat) (j : Int) (l : List El) (z4 z5 : Int) (c0 c1 d0 d1 : Cc) : Option Bool :=
  L73_1 f84 h86 f93 f108 f23 h88 f94 h87 f95 h92s f112 h97 h92 h86 h88 h87 h92s h97 h92 N KK m 2 2 l z4 z5 2 2 2 j c0.1 c0.2.1 c0.2.2.1 c0.2.2.2.1 c0.2.2.2.2.1 c0.2.2.2.2.2.1 c0.2.2.2.2.2.2.1 c0.2.2.2.2.2.2.2.1 c0.2.2.2.2.2.2.2.2 c1.1 c1.2.1 c1.2.2.1 c1.2.2.2.1 c1.2.2.2.2.1 c1.2.2.2.2.2.1 c1.2.2.2.2.2.2.1 c1.2.2.2.2.2.2.2.1 c1.2.2.2.2.2.2.2.2 d0.1 d0.2.1 d0.2.2.1 d0.2.2.2.1 d0.2.2.2.2.1 d0.2.2.2.2.2.1 d0.2.2.2.2.2.2.1 d0.2.2.2.2.2.2.2.1 d0.2.2.2.2.2.2.2.2 d1.1 d1.2.1 d1.2.2.1 d1.2.2.2.1 d1.2.2.2.2.1 d1.2.2.2.2.2.1 d1.2.2.2.2.2.2.1 d1.2.2.2.2.2.2.2.1 d1.2.2.2.2.2.2.2.2
def kk (KK : K73) (l : List El) (z4 z5 : Int) (c0 c1 d0 d1 : Cc) : Option Bool := KK 2 2 l z4 z5 c0.1 c0.2.1 c0.2.2.1 c0.2.2.2.1 c0.2.2.2.2.1 c0.2.2.2.2.2.1 c0.2.2.2.2.2.2.1 c0.2.2.2.2.2.2.2.1 c0.2.2.2.2.2.2.2.2 c1.1 c1.2.1 c1.2.2.1 c1.2.2.2.1 c1.2.2.2.2.1 c1.2.2.2.2.2.1 c1.2.2.2.2.2.2.1 c1.2.2.2.2.2.2.2.1 c1.2.2.2.2.2.2.2.2 d0.1 d0.2.1 d0.2.2.1 d0.2.2.2.1 d0.2.2.2.2.1 d0.2.2.2.2.2.1 d0.2.2.2.2.2.2.1 d0.2.2.2.2.2.2.2.1 d0.2.2.2.2.2.2.2.2 d1.1 d1.2.1 d1.2.2.1 d1.2.2.2.1 d1.2.2.2.2.1 d1.2.2.2.2.2.1 d1.2.2.2.2.2.2.1 d1.2.2.2.2.2.2.2.1 d1.2.2.2.2.2.2.2.2
def cmp1 (b b' : List Int) (p t l p' t' l' : Int) (s s' : Bool) (k : Option Bool) : Option Bool :=
  match f108 b with
  | none => none
  | some r => bif decide (0 + List.length r * 1 ≤ List.length r) then match f23 (List.take (List.length r) (List.drop 0 r)) b' with
    | none => none
    | some e => bif (!e) then some false else match f108 b with
      | none => none
      | some q => bif decide (0 + List.length q * 1 ≤ List.length q) then bif ((((List.length (List.take (List.length q) (List.drop 0 q))) : Nat) : Int) != ((b'.length : Nat) : Int)) then some false else bif (p != p') then some false else bif (t != t') then some false else bif (l != l') then some false else bif ((!s) == s') then some false else k else none else none
theorem cmp1_is {b : List Int} {p t l : Int} {s : Bool} {k : Option Bool} (h : b.length ≤ 65536) : cmp1 b b p t l p t l s s k = k := by
  unfold cmp1
  rw [f108_is (by omega)]
  simp only []
  rw [decide_eq_true (by omega), cond_true, List.drop_zero, List.take_length, f23_same (by omega)]
  simp only [Bool.not_true, cond_false, bne_self_eq_false]
  cases s <;> rfl
theorem m2_0 (N : Nat) (KK : K73) (m : Nat) (l : List El) (z4 z5 : Int) (c0 c1 d0 d1 : Cc) : M2 N KK (m + 1) 0 l z4 z5 c0 c1 d0 d1 = cmp1 c0.1 d0.1 c0.2.1 c0.2.2.1 c0.2.2.2.1 d0.2.1 d0.2.2.1 d0.2.2.2.1 c0.2.2.2.2.2.2.2.2 d0.2.2.2.2.2.2.2.2 (cmp1 c0.2.2.2.2.1 d0.2.2.2.2.1 c0.2.2.2.2.2.1 c0.2.2.2.2.2.2.1 c0.2.2.2.2.2.2.2.1 d0.2.2.2.2.2.1 d0.2.2.2.2.2.2.1 d0.2.2.2.2.2.2.2.1 c0.2.2.2.2.2.2.2.2 d0.2.2.2.2.2.2.2.2 (M2 N KK m 1 l z4 z5 c0 c1 d0 d1)) := by kernel_rfl
theorem m2_1 (N : Nat) (KK : K73) (m : Nat) (l : List El) (z4 z5 : Int) (c0 c1 d0 d1 : Cc) : M2 N KK (m + 1) 1 l z4 z5 c0 c1 d0 d1 = cmp1 c1.1 d1.1 c1.2.1 c1.2.2.1 c1.2.2.2.1 d1.2.1 d1.2.2.1 d1.2.2.2.1 c1.2.2.2.2.2.2.2.2 d1.2.2.2.2.2.2.2.2 (cmp1 c1.2.2.2.2.1 d1.2.2.2.2.1 c1.2.2.2.2.2.1 c1.2.2.2.2.2.2.1 c1.2.2.2.2.2.2.2.1 d1.2.2.2.2.2.1 d1.2.2.2.2.2.2.1 d1.2.2.2.2.2.2.2.1 c1.2.2.2.2.2.2.2.2 d1.2.2.2.2.2.2.2.2 (M2 N KK m 2 l z4 z5 c0 c1 d0 d1)) := by kernel_rfl
theorem m2_2 (N : Nat) (KK : K73) (m : Nat) (l : List El) (z4 z5 : Int) (c0 c1 d0 d1 : Cc) : M2 N KK (m + 1) 2 l z4 z5 c0 c1 d0 d1 = kk KK l z4 z5 c0 c1 d0 d1 := by kernel_rfl
theorem Mm_is {N : Nat} (hN : 3 ≤ N) (KK : K73) (l : List El) (z4 z5 : Int) {c0 c1 : Cc} (h0 : okC c0) (h1 : okC c1) : Mm N KK l z4 z5 c0 c1 c0 c1 = kk KK l z4 z5 c0 c1 c0 c1 := by
  obtain ⟨m, rfl⟩ : ∃ m, N = m + 1 + 1 + 1 := ⟨N - 3, by omega⟩
  show M2 (m + 1 + 1 + 1) KK (m + 1 + 1 + 1) 0 l z4 z5 c0 c1 c0 c1 = _
  rw [m2_0, cmp1_is h0.1, cmp1_is h0.2, m2_1, cmp1_is h1.1, cmp1_is h1.2, m2_2]
def chk (r : (Int × Int × Unit) × Unit) (a e : Int) (k : Option Bool) : Option Bool := bif (r.1.1 != a) then some false else bif (r.1.2.1 != e) then some false else k
theorem chk_is {a e : Int} {k : Option Bool} : chk ((a, (e, ())), ()) a e k = k := by
  unfold chk; rw [bne_self_eq_false, cond_false, bne_self_eq_false, cond_false]
/-! ### the steps -/
theorem sTake_lt {c : Cc} {w n : Int} (h : okC c) : (sTake c w n).2.1.length < 1099511627776 := by
  obtain ⟨h1, h2⟩ := h
  unfold sTake
  split
  · split
    · exact Nat.lt_of_lt_of_le (Nat.zero_lt_succ 0) (by decide)
    · show (c.1.take _).length < _
      rw [List.length_take]; omega
  · split
    · split
      · exact Nat.lt_of_lt_of_le (Nat.zero_lt_succ 0) (by decide)
      · show (c.2.2.2.2.1.take _).length < _
        rw [List.length_take]; omega
    · exact Nat.lt_of_lt_of_le (Nat.zero_lt_succ 0) (by decide)
theorem s110_eq (N : Nat) (KK : K73) (l : List El) (z4 z5 : Int) (c0 c1 : Cc) (k : Int) (sec bo : Bool) (w o n : Int) (b : List Int) : S73_110 f84 h86 f93 f108 f23 h88 f94 h87 f95 h92s f112 h97 h92 h86 h88 h87 h92s h97 h92 N KK 2 2 l z4 z5 c0.1 c0.2.1 c0.2.2.1 c0.2.2.2.1 c0.2.2.2.2.1 c0.2.2.2.2.2.1 c0.2.2.2.2.2.2.1 c0.2.2.2.2.2.2.2.1 c0.2.2.2.2.2.2.2.2 c1.1 c1.2.1 c1.2.2.1 c1.2.2.2.1 c1.2.2.2.2.1 c1.2.2.2.2.2.1 c1.2.2.2.2.2.2.1 c1.2.2.2.2.2.2.2.1 c1.2.2.2.2.2.2.2.2 c0.1 c0.2.1 c0.2.2.1 c0.2.2.2.1 c0.2.2.2.2.1 c0.2.2.2.2.2.1 c0.2.2.2.2.2.2.1 c0.2.2.2.2.2.2.2.1 c0.2.2.2.2.2.2.2.2 c1.1 c1.2.1 c1.2.2.1 c1.2.2.2.1 c1.2.2.2.2.1 c1.2.2.2.2.2.1 c1.2.2.2.2.2.2.1 c1.2.2.2.2.2.2.2.1 c1.2.2.2.2.2.2.2.2 (k, (sec, (bo, (w, (o, (n, b)))))) = match h86 w b c1.1 c1.2.1 c1.2.2.1 c1.2.2.2.1 c1.2.2.2.2.1 c1.2.2.2.2.2.1 c1.2.2.2.2.2.2.1 c1.2.2.2.2.2.2.2.1 c1.2.2.2.2.2.2.2.2 with
  | none => none
  | some r => match f93 (c1.1, (c1.2.1, (c1.2.2.1, (c1.2.2.2.1, (c1.2.2.2.2.1, (c1.2.2.2.2.2.1, (c1.2.2.2.2.2.2.1, (c1.2.2.2.2.2.2.2.1, (c1.2.2.2.2.2.2.2.2))))))))) w b with
    | none => none
    | some u => bif (r.1.1 != u.2) then some false else Mm N KK l z4 z5 c0 (uu r.2.1) c0 (u.1) := by kernel_rfl
theorem s110 {N : Nat} (hN : 3 ≤ N) (KK : K73) (l : List El) (z4 z5 : Int) {c0 c1 : Cc} (h0 : okC c0) (h1 : okC c1) (k : Int) (sec bo : Bool) (w o n : Int) {b : List Int} (hb : b.length ≤ 70000) : ∃ c0' c1', okC c0' ∧ okC c1' ∧ S73_110 f84 h86 f93 f108 f23 h88 f94 h87 f95 h92s f112 h97 h92 h86 h88 h87 h92s h97 h92 N KK 2 2 l z4 z5 c0.1 c0.2.1 c0.2.2.1 c0.2.2.2.1 c0.2.2.2.2.1 c0.2.2.2.2.2.1 c0.2.2.2.2.2.2.1 c0.2.2.2.2.2.2.2.1 c0.2.2.2.2.2.2.2.2 c1.1 c1.2.1 c1.2.2.1 c1.2.2.2.1 c1.2.2.2.2.1 c1.2.2.2.2.2.1 c1.2.2.2.2.2.2.1 c1.2.2.2.2.2.2.2.1 c1.2.2.2.2.2.2.2.2 c0.1 c0.2.1 c0.2.2.1 c0.2.2.2.1 c0.2.2.2.2.1 c0.2.2.2.2.2.1 c0.2.2.2.2.2.2.1 c0.2.2.2.2.2.2.2.1 c0.2.2.2.2.2.2.2.2 c1.1 c1.2.1 c1.2.2.1 c1.2.2.2.1 c1.2.2.2.2.1 c1.2.2.2.2.2.1 c1.2.2.2.2.2.2.1 c1.2.2.2.2.2.2.2.1 c1.2.2.2.2.2.2.2.2 (k, (sec, (bo, (w, (o, (n, b)))))) = kk KK l z4 z5 c0' c1' c0' c1' := by
  refine ⟨c0, (sPut c1 w b).1, h0, sPut_ok h1, ?_⟩
  rw [s110_eq, h86_is h1 hb, f93_is h1 hb]
  simp only [bne_self_eq_false, cond_false]
  exact Mm_is hN KK l z4 z5 h0 (sPut_ok h1)
theorem s111_eq (N : Nat) (KK : K73) (l : List El) (z4 z5 : Int) (c0 c1 : Cc) (k : Int) (sec bo : Bool) (w o n : Int) (b : List Int) : S73_111 f84 h86 f93 f108 f23 h88 f94 h87 f95 h92s f112 h97 h92 h86 h88 h87 h92s h97 h92 N KK 2 2 l z4 z5 c0.1 c0.2.1 c0.2.2.1 c0.2.2.2.1 c0.2.2.2.2.1 c0.2.2.2.2.2.1 c0.2.2.2.2.2.2.1 c0.2.2.2.2.2.2.2.1 c0.2.2.2.2.2.2.2.2 c1.1 c1.2.1 c1.2.2.1 c1.2.2.2.1 c1.2.2.2.2.1 c1.2.2.2.2.2.1 c1.2.2.2.2.2.2.1 c1.2.2.2.2.2.2.2.1 c1.2.2.2.2.2.2.2.2 c0.1 c0.2.1 c0.2.2.1 c0.2.2.2.1 c0.2.2.2.2.1 c0.2.2.2.2.2.1 c0.2.2.2.2.2.2.1 c0.2.2.2.2.2.2.2.1 c0.2.2.2.2.2.2.2.2 c1.1 c1.2.1 c1.2.2.1 c1.2.2.2.1 c1.2.2.2.2.1 c1.2.2.2.2.2.1 c1.2.2.2.2.2.2.1 c1.2.2.2.2.2.2.2.1 c1.2.2.2.2.2.2.2.2 (k, (sec, (bo, (w, (o, (n, b)))))) = match h88 w n c1.1 c1.2.1 c1.2.2.1 c1.2.2.2.1 c1.2.2.2.2.1 c1.2.2.2.2.2.1 c1.2.2.2.2.2.2.1 c1.2.2.2.2.2.2.2.1 c1.2.2.2.2.2.2.2.2 with
  | none => none
  | some r => match f94 (c1.1, (c1.2.1, (c1.2.2.1, (c1.2.2.2.1, (c1.2.2.2.2.1, (c1.2.2.2.2.2.1, (c1.2.2.2.2.2.2.1, (c1.2.2.2.2.2.2.2.1, (c1.2.2.2.2.2.2.2.2))))))))) w n with
    | none => none
    | some u => match f23 r.1.1.1 u.2.1 with
      | none => none
      | some e => bif (!e) then some false else bif (r.1.1.2.1 != u.2.2) then some false else Mm N KK l z4 z5 c0 (uu r.2.1) c0 (u.1) := by kernel_rfl
theorem s111 {N : Nat} (hN : 3 ≤ N) (KK : K73) (l : List El) (z4 z5 : Int) {c0 c1 : Cc} (h0 : okC c0) (h1 : okC c1) (k : Int) (sec bo : Bool) (w o n : Int) {b : List Int} (hb : b.length ≤ 70000) : ∃ c0' c1', okC c0' ∧ okC c1' ∧ S73_111 f84 h86 f93 f108 f23 h88 f94 h87 f95 h92s f112 h97 h92 h86 h88 h87 h92s h97 h92 N KK 2 2 l z4 z5 c0.1 c0.2.1 c0.2.2.1 c0.2.2.2.1 c0.2.2.2.2.1 c0.2.2.2.2.2.1 c0.2.2.2.2.2.2.1 c0.2.2.2.2.2.2.2.1 c0.2.2.2.2.2.2.2.2 c1.1 c1.2.1 c1.2.2.1 c1.2.2.2.1 c1.2.2.2.2.1 c1.2.2.2.2.2.1 c1.2.2.2.2.2.2.1 c1.2.2.2.2.2.2.2.1 c1.2.2.2.2.2.2.2.2 c0.1 c0.2.1 c0.2.2.1 c0.2.2.2.1 c0.2.2.2.2.1 c0.2.2.2.2.2.1 c0.2.2.2.2.2.2.1 c0.2.2.2.2.2.2.2.1 c0.2.2.2.2.2.2.2.2 c1.1 c1.2.1 c1.2.2.1 c1.2.2.2.1 c1.2.2.2.2.1 c1.2.2.2.2.2.1 c1.2.2.2.2.2.2.1 c1.2.2.2.2.2.2.2.1 c1.2.2.2.2.2.2.2.2 (k, (sec, (bo, (w, (o, (n, b)))))) = kk KK l z4 z5 c0' c1' c0' c1' := by
  refine ⟨c0, (sTake c1 w n).1, h0, sTake_ok h1, ?_⟩
  rw [s111_eq, h88_is h1, f94_is h1]
  simp only []
  rw [f23_same (sTake_lt h1)]
  simp only [Bool.not_true, bne_self_eq_false, cond_false]
  exact Mm_is hN KK l z4 z5 h0 (sTake_ok h1)
theorem s112_eq (N : Nat) (KK : K73) (l : List El) (z4 z5 : Int) (c0 c1 : Cc) (k : Int) (sec bo : Bool) (w o n : Int) (b : List Int) : S73_112 f84 h86 f93 f108 f23 h88 f94 h87 f95 h92s f112 h97 h92 h86 h88 h87 h92s h97 h92 N KK 2 2 l z4 z5 c0.1 c0.2.1 c0.2.2.1 c0.2.2.2.1 c0.2.2.2.2.1 c0.2.2.2.2.2.1 c0.2.2.2.2.2.2.1 c0.2.2.2.2.2.2.2.1 c0.2.2.2.2.2.2.2.2 c1.1 c1.2.1 c1.2.2.1 c1.2.2.2.1 c1.2.2.2.2.1 c1.2.2.2.2.2.1 c1.2.2.2.2.2.2.1 c1.2.2.2.2.2.2.2.1 c1.2.2.2.2.2.2.2.2 c0.1 c0.2.1 c0.2.2.1 c0.2.2.2.1 c0.2.2.2.2.1 c0.2.2.2.2.2.1 c0.2.2.2.2.2.2.1 c0.2.2.2.2.2.2.2.1 c0.2.2.2.2.2.2.2.2 c1.1 c1.2.1 c1.2.2.1 c1.2.2.2.1 c1.2.2.2.2.1 c1.2.2.2.2.2.1 c1.2.2.2.2.2.2.1 c1.2.2.2.2.2.2.2.1 c1.2.2.2.2.2.2.2.2 (k, (sec, (bo, (w, (o, (n, b)))))) = match h87 w n c1.1 c1.2.1 c1.2.2.1 c1.2.2.2.1 c1.2.2.2.2.1 c1.2.2.2.2.2.1 c1.2.2.2.2.2.2.1 c1.2.2.2.2.2.2.2.1 c1.2.2.2.2.2.2.2.2 with
  | none => none
  | some r => match f95 (c1.1, (c1.2.1, (c1.2.2.1, (c1.2.2.2.1, (c1.2.2.2.2.1, (c1.2.2.2.2.2.1, (c1.2.2.2.2.2.2.1, (c1.2.2.2.2.2.2.2.1, (c1.2.2.2.2.2.2.2.2))))))))) w n with
    | none => none
    | some u => bif (r.1.1.1 != u.2.1) then some false else bif (r.1.1.2.1 != u.2.2) then some false else Mm N KK l z4 z5 c0 (uu r.2.1) c0 (u.1) := by kernel_rfl
theorem s112 {N : Nat} (hN : 3 ≤ N) (KK : K73) (l : List El) (z4 z5 : Int) {c0 c1 : Cc} (h0 : okC c0) (h1 : okC c1) (k : Int) (sec bo : Bool) (w o n : Int) {b : List Int} (hb : b.length ≤ 70000) : ∃ c0' c1', okC c0' ∧ okC c1' ∧ S73_112 f84 h86 f93 f108 f23 h88 f94 h87 f95 h92s f112 h97 h92 h86 h88 h87 h92s h97 h92 N KK 2 2 l z4 z5 c0.1 c0.2.1 c0.2.2.1 c0.2.2.2.1 c0.2.2.2.2.1 c0.2.2.2.2.2.1 c0.2.2.2.2.2.2.1 c0.2.2.2.2.2.2.2.1 c0.2.2.2.2.2.2.2.2 c1.1 c1.2.1 c1.2.2.1 c1.2.2.2.1 c1.2.2.2.2.1 c1.2.2.2.2.2.1 c1.2.2.2.2.2.2.1 c1.2.2.2.2.2.2.2.1 c1.2.2.2.2.2.2.2.2 c0.1 c0.2.1 c0.2.2.1 c0.2.2.2.1 c0.2.2.2.2.1 c0.2.2.2.2.2.1 c0.2.2.2.2.2.2.1 c0.2.2.2.2.2.2.2.1 c0.2.2.2.2.2.2.2.2 c1.1 c1.2.1 c1.2.2.1 c1.2.2.2.1 c1.2.2.2.2.1 c1.2.2.2.2.2.1 c1.2.2.2.2.2.2.1 c1.2.2.2.2.2.2.2.1 c1.2.2.2.2.2.2.2.2 (k, (sec, (bo, (w, (o, (n, b)))))) = kk KK l z4 z5 c0' c1' c0' c1' := by
  refine ⟨c0, (sLose c1 w n).1, h0, sLose_ok h1, ?_⟩
  rw [s112_eq, h87_is h1, f95_is h1]
  simp only [bne_self_eq_false, cond_false]
  exact Mm_is hN KK l z4 z5 h0 (sLose_ok h1)
theorem s114 {N : Nat} (hN : 3 ≤ N) (KK : K73) (l : List El) (z4 z5 : Int) {c0 c1 : Cc} (h0 : okC c0) (h1 : okC c1) (k : Int) (sec bo : Bool) (w o n : Int) {b : List Int} (hb : b.length ≤ 70000) : ∃ c0' c1', okC c0' ∧ okC c1' ∧ S73_114 f84 h86 f93 f108 f23 h88 f94 h87 f95 h92s f112 h97 h92 h86 h88 h87 h92s h97 h92 N KK 2 2 l z4 z5 c0.1 c0.2.1 c0.2.2.1 c0.2.2.2.1 c0.2.2.2.2.1 c0.2.2.2.2.2.1 c0.2.2.2.2.2.2.1 c0.2.2.2.2.2.2.2.1 c0.2.2.2.2.2.2.2.2 c1.1 c1.2.1 c1.2.2.1 c1.2.2.2.1 c1.2.2.2.2.1 c1.2.2.2.2.2.1 c1.2.2.2.2.2.2.1 c1.2.2.2.2.2.2.2.1 c1.2.2.2.2.2.2.2.2 c0.1 c0.2.1 c0.2.2.1 c0.2.2.2.1 c0.2.2.2.2.1 c0.2.2.2.2.2.1 c0.2.2.2.2.2.2.1 c0.2.2.2.2.2.2.2.1 c0.2.2.2.2.2.2.2.2 c1.1 c1.2.1 c1.2.2.1 c1.2.2.2.1 c1.2.2.2.2.1 c1.2.2.2.2.2.1 c1.2.2.2.2.2.2.1 c1.2.2.2.2.2.2.2.1 c1.2.2.2.2.2.2.2.2 (k, (sec, (bo, (w, (o, (n, b)))))) = kk KK l z4 z5 c0' c1' c0' c1' := by
  refine ⟨c0, (c1.1, (c1.2.1, (c1.2.2.1, (c1.2.2.2.1, (c1.2.2.2.2.1, (c1.2.2.2.2.2.1, (c1.2.2.2.2.2.2.1, (c1.2.2.2.2.2.2.2.1, true)))))))), h0, h1, ?_⟩
  have e : S73_114 f84 h86 f93 f108 f23 h88 f94 h87 f95 h92s f112 h97 h92 h86 h88 h87 h92s h97 h92 N KK 2 2 l z4 z5 c0.1 c0.2.1 c0.2.2.1 c0.2.2.2.1 c0.2.2.2.2.1 c0.2.2.2.2.2.1 c0.2.2.2.2.2.2.1 c0.2.2.2.2.2.2.2.1 c0.2.2.2.2.2.2.2.2 c1.1 c1.2.1 c1.2.2.1 c1.2.2.2.1 c1.2.2.2.2.1 c1.2.2.2.2.2.1 c1.2.2.2.2.2.2.1 c1.2.2.2.2.2.2.2.1 c1.2.2.2.2.2.2.2.2 c0.1 c0.2.1 c0.2.2.1 c0.2.2.2.1 c0.2.2.2.2.1 c0.2.2.2.2.2.1 c0.2.2.2.2.2.2.1 c0.2.2.2.2.2.2.2.1 c0.2.2.2.2.2.2.2.2 c1.1 c1.2.1 c1.2.2.1 c1.2.2.2.1 c1.2.2.2.2.1 c1.2.2.2.2.2.1 c1.2.2.2.2.2.2.1 c1.2.2.2.2.2.2.2.1 c1.2.2.2.2.2.2.2.2 (k, (sec, (bo, (w, (o, (n, b)))))) = Mm N KK l z4 z5 c0 ((c1.1, (c1.2.1, (c1.2.2.1, (c1.2.2.2.1, (c1.2.2.2.2.1, (c1.2.2.2.2.2.1, (c1.2.2.2.2.2.2.1, (c1.2.2.2.2.2.2.2.1, true))))))))) c0 ((c1.1, (c1.2.1, (c1.2.2.1, (c1.2.2.2.1, (c1.2.2.2.2.1, (c1.2.2.2.2.2.1, (c1.2.2.2.2.2.2.1, (c1.2.2.2.2.2.2.2.1, true))))))))) := by kernel_rfl
  rw [e]
  exact Mm_is hN KK l z4 z5 h0 (show okC (c1.1, (c1.2.1, (c1.2.2.1, (c1.2.2.2.1, (c1.2.2.2.2.1, (c1.2.2.2.2.2.1, (c1.2.2.2.2.2.2.1, (c1.2.2.2.2.2.2.2.1, true)))))))) from h1)
theorem s113_00 (N : Nat) (KK : K73) (l : List El) (z4 z5 : Int) (c0 c1 : Cc) (k : Int) (sec bo : Bool) (n : Int) (b : List Int) : S73_113 f84 h86 f93 f108 f23 h88 f94 h87 f95 h92s f112 h97 h92 h86 h88 h87 h92s h97 h92 N KK 2 2 l z4 z5 c0.1 c0.2.1 c0.2.2.1 c0.2.2.2.1 c0.2.2.2.2.1 c0.2.2.2.2.2.1 c0.2.2.2.2.2.2.1 c0.2.2.2.2.2.2.2.1 c0.2.2.2.2.2.2.2.2 c1.1 c1.2.1 c1.2.2.1 c1.2.2.2.1 c1.2.2.2.2.1 c1.2.2.2.2.2.1 c1.2.2.2.2.2.2.1 c1.2.2.2.2.2.2.2.1 c1.2.2.2.2.2.2.2.2 c0.1 c0.2.1 c0.2.2.1 c0.2.2.2.1 c0.2.2.2.2.1 c0.2.2.2.2.2.1 c0.2.2.2.2.2.2.1 c0.2.2.2.2.2.2.2.1 c0.2.2.2.2.2.2.2.2 c1.1 c1.2.1 c1.2.2.1 c1.2.2.2.1 c1.2.2.2.2.1 c1.2.2.2.2.2.1 c1.2.2.2.2.2.2.1 c1.2.2.2.2.2.2.2.1 c1.2.2.2.2.2.2.2.2 (k, (sec, (bo, (0, (0, (n, b)))))) = match h92s 0 0 n c1.1 c1.2.1 c1.2.2.1 c1.2.2.2.1 c1.2.2.2.2.1 c1.2.2.2.2.2.1 c1.2.2.2.2.2.2.1 c1.2.2.2.2.2.2.2.1 c1.2.2.2.2.2.2.2.2 with
  | none => none
  | some r => bif decide (n < 0) then chk r.1 0 1 (Mm N KK l z4 z5 c0 (uu r.2.1) c0 (c1)) else chk r.1 0 1 (Mm N KK l z4 z5 c0 (uu r.2.1) c0 (c1)) := by kernel_rfl
theorem s113_01 (N : Nat) (KK : K73) (l : List El) (z4 z5 : Int) (c0 c1 : Cc) (k : Int) (sec bo : Bool) (n : Int) (b : List Int) : S73_113 f84 h86 f93 f108 f23 h88 f94 h87 f95 h92s f112 h97 h92 h86 h88 h87 h92s h97 h92 N KK 2 2 l z4 z5 c0.1 c0.2.1 c0.2.2.1 c0.2.2.2.1 c0.2.2.2.2.1 c0.2.2.2.2.2.1 c0.2.2.2.2.2.2.1 c0.2.2.2.2.2.2.2.1 c0.2.2.2.2.2.2.2.2 c1.1 c1.2.1 c1.2.2.1 c1.2.2.2.1 c1.2.2.2.2.1 c1.2.2.2.2.2.1 c1.2.2.2.2.2.2.1 c1.2.2.2.2.2.2.2.1 c1.2.2.2.2.2.2.2.2 c0.1 c0.2.1 c0.2.2.1 c0.2.2.2.1 c0.2.2.2.2.1 c0.2.2.2.2.2.1 c0.2.2.2.2.2.2.1 c0.2.2.2.2.2.2.2.1 c0.2.2.2.2.2.2.2.2 c1.1 c1.2.1 c1.2.2.1 c1.2.2.2.1 c1.2.2.2.2.1 c1.2.2.2.2.2.1 c1.2.2.2.2.2.2.1 c1.2.2.2.2.2.2.2.1 c1.2.2.2.2.2.2.2.2 (k, (sec, (bo, (0, (1, (n, b)))))) = match h92s 0 1 n c1.1 c1.2.1 c1.2.2.1 c1.2.2.2.1 c1.2.2.2.2.1 c1.2.2.2.2.2.1 c1.2.2.2.2.2.2.1 c1.2.2.2.2.2.2.2.1 c1.2.2.2.2.2.2.2.2 with
  | none => none
  | some r => bif decide (n < 0) then chk r.1 0 1 (Mm N KK l z4 z5 c0 (uu r.2.1) c0 (c1)) else bif c1.2.2.2.2.2.2.2.2 then chk r.1 0 11 (Mm N KK l z4 z5 c0 (uu r.2.1) c0 (c1)) else bif decide (iadd .i64 ((c1.2.2.2.2.1.length : Nat) : Int) (if ((c1.1.length : Nat) : Int) < n then ((c1.1.length : Nat) : Int) else n) > 65536) then chk r.1 0 12 (Mm N KK l z4 z5 c0 (uu r.2.1) c0 (c1)) else match f94 (c1.1, (c1.2.1, (c1.2.2.1, (c1.2.2.2.1, (c1.2.2.2.2.1, (c1.2.2.2.2.2.1, (c1.2.2.2.2.2.2.1, (c1.2.2.2.2.2.2.2.1, (c1.2.2.2.2.2.2.2.2))))))))) 0 n with
    | none => none
    | some t => match f93 (t.1.1, (t.1.2.1, (t.1.2.2.1, (t.1.2.2.2.1, (t.1.2.2.2.2.1, (t.1.2.2.2.2.2.1, (t.1.2.2.2.2.2.2.1, (t.1.2.2.2.2.2.2.2.1, (t.1.2.2.2.2.2.2.2.2))))))))) 1 t.2.1 with
      | none => none
      | some v => chk r.1 ((t.2.1.length : Nat) : Int) 0 (Mm N KK l z4 z5 c0 (uu r.2.1) c0 (v.1)) := by kernel_rfl
theorem s113_10 (N : Nat) (KK : K73) (l : List El) (z4 z5 : Int) (c0 c1 : Cc) (k : Int) (sec bo : Bool) (n : Int) (b : List Int) : S73_113 f84 h86 f93 f108 f23 h88 f94 h87 f95 h92s f112 h97 h92 h86 h88 h87 h92s h97 h92 N KK 2 2 l z4 z5 c0.1 c0.2.1 c0.2.2.1 c0.2.2.2.1 c0.2.2.2.2.1 c0.2.2.2.2.2.1 c0.2.2.2.2.2.2.1 c0.2.2.2.2.2.2.2.1 c0.2.2.2.2.2.2.2.2 c1.1 c1.2.1 c1.2.2.1 c1.2.2.2.1 c1.2.2.2.2.1 c1.2.2.2.2.2.1 c1.2.2.2.2.2.2.1 c1.2.2.2.2.2.2.2.1 c1.2.2.2.2.2.2.2.2 c0.1 c0.2.1 c0.2.2.1 c0.2.2.2.1 c0.2.2.2.2.1 c0.2.2.2.2.2.1 c0.2.2.2.2.2.2.1 c0.2.2.2.2.2.2.2.1 c0.2.2.2.2.2.2.2.2 c1.1 c1.2.1 c1.2.2.1 c1.2.2.2.1 c1.2.2.2.2.1 c1.2.2.2.2.2.1 c1.2.2.2.2.2.2.1 c1.2.2.2.2.2.2.2.1 c1.2.2.2.2.2.2.2.2 (k, (sec, (bo, (1, (0, (n, b)))))) = match h92s 1 0 n c1.1 c1.2.1 c1.2.2.1 c1.2.2.2.1 c1.2.2.2.2.1 c1.2.2.2.2.2.1 c1.2.2.2.2.2.2.1 c1.2.2.2.2.2.2.2.1 c1.2.2.2.2.2.2.2.2 with
  | none => none
  | some r => bif decide (n < 0) then chk r.1 0 1 (Mm N KK l z4 z5 c0 (uu r.2.1) c0 (c1)) else bif c1.2.2.2.2.2.2.2.2 then chk r.1 0 11 (Mm N KK l z4 z5 c0 (uu r.2.1) c0 (c1)) else bif decide (iadd .i64 ((c1.1.length : Nat) : Int) (if ((c1.2.2.2.2.1.length : Nat) : Int) < n then ((c1.2.2.2.2.1.length : Nat) : Int) else n) > 65536) then chk r.1 0 12 (Mm N KK l z4 z5 c0 (uu r.2.1) c0 (c1)) else match f94 (c1.1, (c1.2.1, (c1.2.2.1, (c1.2.2.2.1, (c1.2.2.2.2.1, (c1.2.2.2.2.2.1, (c1.2.2.2.2.2.2.1, (c1.2.2.2.2.2.2.2.1, (c1.2.2.2.2.2.2.2.2))))))))) 1 n with
    | none => none
    | some t => match f93 (t.1.1, (t.1.2.1, (t.1.2.2.1, (t.1.2.2.2.1, (t.1.2.2.2.2.1, (t.1.2.2.2.2.2.1, (t.1.2.2.2.2.2.2.1, (t.1.2.2.2.2.2.2.2.1, (t.1.2.2.2.2.2.2.2.2))))))))) 0 t.2.1 with
      | none => none
      | some v => chk r.1 ((t.2.1.length : Nat) : Int) 0 (Mm N KK l z4 z5 c0 (uu r.2.1) c0 (v.1)) := by kernel_rfl
theorem s113_11 (N : Nat) (KK : K73) (l : List El) (z4 z5 : Int) (c0 c1 : Cc) (k : Int) (sec bo : Bool) (n : Int) (b : List Int) : S73_113 f84 h86 f93 f108 f23 h88 f94 h87 f95 h92s f112 h97 h92 h86 h88 h87 h92s h97 h92 N KK 2 2 l z4 z5 c0.1 c0.2.1 c0.2.2.1 c0.2.2.2.1 c0.2.2.2.2.1 c0.2.2.2.2.2.1 c0.2.2.2.2.2.2.1 c0.2.2.2.2.2.2.2.1 c0.2.2.2.2.2.2.2.2 c1.1 c1.2.1 c1.2.2.1 c1.2.2.2.1 c1.2.2.2.2.1 c1.2.2.2.2.2.1 c1.2.2.2.2.2.2.1 c1.2.2.2.2.2.2.2.1 c1.2.2.2.2.2.2.2.2 c0.1 c0.2.1 c0.2.2.1 c0.2.2.2.1 c0.2.2.2.2.1 c0.2.2.2.2.2.1 c0.2.2.2.2.2.2.1 c0.2.2.2.2.2.2.2.1 c0.2.2.2.2.2.2.2.2 c1.1 c1.2.1 c1.2.2.1 c1.2.2.2.1 c1.2.2.2.2.1 c1.2.2.2.2.2.1 c1.2.2.2.2.2.2.1 c1.2.2.2.2.2.2.2.1 c1.2.2.2.2.2.2.2.2 (k, (sec, (bo, (1, (1, (n, b)))))) = match h92s 1 1 n c1.1 c1.2.1 c1.2.2.1 c1.2.2.2.1 c1.2.2.2.2.1 c1.2.2.2.2.2.1 c1.2.2.2.2.2.2.1 c1.2.2.2.2.2.2.2.1 c1.2.2.2.2.2.2.2.2 with
  | none => none
  | some r => bif decide (n < 0) then chk r.1 0 1 (Mm N KK l z4 z5 c0 (uu r.2.1) c0 (c1)) else chk r.1 0 1 (Mm N KK l z4 z5 c0 (uu r.2.1) c0 (c1)) := by kernel_rfl
theorem s113 {N : Nat} (hN : 3 ≤ N) (KK : K73) (l : List El) (z4 z5 : Int) {c0 c1 : Cc} (h0 : okC c0) (h1 : okC c1) (k : Int) (sec bo : Bool) (w o n : Int) {b : List Int} (hb : b.length ≤ 70000) : ∃ c0' c1', okC c0' ∧ okC c1' ∧ S73_113 f84 h86 f93 f108 f23 h88 f94 h87 f95 h92s f112 h97 h92 h86 h88 h87 h92s h97 h92 N KK 2 2 l z4 z5 c0.1 c0.2.1 c0.2.2.1 c0.2.2.2.1 c0.2.2.2.2.1 c0.2.2.2.2.2.1 c0.2.2.2.2.2.2.1 c0.2.2.2.2.2.2.2.1 c0.2.2.2.2.2.2.2.2 c1.1 c1.2.1 c1.2.2.1 c1.2.2.2.1 c1.2.2.2.2.1 c1.2.2.2.2.2.1 c1.2.2.2.2.2.2.1 c1.2.2.2.2.2.2.2.1 c1.2.2.2.2.2.2.2.2 c0.1 c0.2.1 c0.2.2.1 c0.2.2.2.1 c0.2.2.2.2.1 c0.2.2.2.2.2.1 c0.2.2.2.2.2.2.1 c0.2.2.2.2.2.2.2.1 c0.2.2.2.2.2.2.2.2 c1.1 c1.2.1 c1.2.2.1 c1.2.2.2.1 c1.2.2.2.2.1 c1.2.2.2.2.2.1 c1.2.2.2.2.2.2.1 c1.2.2.2.2.2.2.2.1 c1.2.2.2.2.2.2.2.2 (k, (sec, (bo, (w, (o, (n, b)))))) = kk KK l z4 z5 c0' c1' c0' c1' := by
  refine ⟨c0, (sRel1 c1 w o n).1, h0, sRel1_ok h1, ?_⟩
  rw [← Mm_is hN KK l z4 z5 h0 (sRel1_ok h1)]
  by_cases hw : w = 0 ∨ w = 1
  · by_cases ho : o = 0 ∨ o = 1
    · rcases hw with rfl | rfl <;> rcases ho with rfl | rfl
      · rw [s113_00, h92s_is h1]
        unfold sRel1
        rw [if_neg (by decide), if_neg (by decide)]
        by_cases hn : n < 0
        · rw [if_pos hn, decide_eq_true hn]
          simp only [cond_true]
          exact chk_is
        · rw [if_neg hn, decide_eq_false hn]
          rw [if_pos rfl]
          simp only [cond_false]
          exact chk_is
      · rw [s113_01, h92s_is h1]
        unfold sRel1
        rw [if_neg (by decide), if_neg (by decide)]
        by_cases hn : n < 0
        · rw [if_pos hn, decide_eq_true hn]
          simp only [cond_true]
          exact chk_is
        · rw [if_neg hn, decide_eq_false hn]
          rw [if_neg (by decide)]
          have e : (if (((wb c1 0).length : Nat) : Int) < n then (((wb c1 0).length : Nat) : Int) else n) = ((cutN (wb c1 0) n : Nat) : Int) := mnI_is hn
          have hl := cutN_le (wb c1 0) n
          have hw := wb_le (w := 0) h1
          have hq := wb_le (w := 1) h1
          by_cases hs : c1.2.2.2.2.2.2.2.2 = true
          · rw [if_pos hs]
            simp only [cond_false]
            rw [bif_t hs]
            exact chk_is
          · rw [if_neg hs]
            simp only [cond_false]
            rw [bif_f (Bool.eq_false_iff.2 hs), show (if (((c1.1).length : Nat) : Int) < n then (((c1.1).length : Nat) : Int) else n) = ((cutN (wb c1 0) n : Nat) : Int) from e, show iadd .i64 (((c1.2.2.2.2.1).length : Nat) : Int) ((cutN (wb c1 0) n : Nat) : Int) = (((wb c1 1).length + cutN (wb c1 0) n : Nat) : Int) from addL hq (by omega)]
            by_cases hf : 65536 < (wb c1 1).length + cutN (wb c1 0) n
            · rw [if_pos hf, decide_eq_true (by omega), cond_true]
              exact chk_is
            · rw [if_neg hf, decide_eq_false (by omega), cond_false, f94_is h1]
              simp only []
              rw [f93_is (sTake_ok h1) (by rw [sTake_len (by omega) hn]; omega)]
              exact chk_is
      · rw [s113_10, h92s_is h1]
        unfold sRel1
        rw [if_neg (by decide), if_neg (by decide)]
        by_cases hn : n < 0
        · rw [if_pos hn, decide_eq_true hn]
          simp only [cond_true]
          exact chk_is
        · rw [if_neg hn, decide_eq_false hn]
          rw [if_neg (by decide)]
          have e : (if (((wb c1 1).length : Nat) : Int) < n then (((wb c1 1).length : Nat) : Int) else n) = ((cutN (wb c1 1) n : Nat) : Int) := mnI_is hn
          have hl := cutN_le (wb c1 1) n
          have hw := wb_le (w := 1) h1
          have hq := wb_le (w := 0) h1
          by_cases hs : c1.2.2.2.2.2.2.2.2 = true
          · rw [if_pos hs]
            simp only [cond_false]
            rw [bif_t hs]
            exact chk_is
          · rw [if_neg hs]
            simp only [cond_false]
            rw [bif_f (Bool.eq_false_iff.2 hs), show (if (((c1.2.2.2.2.1).length : Nat) : Int) < n then (((c1.2.2.2.2.1).length : Nat) : Int) else n) = ((cutN (wb c1 1) n : Nat) : Int) from e, show iadd .i64 (((c1.1).length : Nat) : Int) ((cutN (wb c1 1) n : Nat) : Int) = (((wb c1 0).length + cutN (wb c1 1) n : Nat) : Int) from addL hq (by omega)]
            by_cases hf : 65536 < (wb c1 0).length + cutN (wb c1 1) n
            · rw [if_pos hf, decide_eq_true (by omega), cond_true]
              exact chk_is
            · rw [if_neg hf, decide_eq_false (by omega), cond_false, f94_is h1]
              simp only []
              rw [f93_is (sTake_ok h1) (by rw [sTake_len (by omega) hn]; omega)]
              exact chk_is
      · rw [s113_11, h92s_is h1]
        unfold sRel1
        rw [if_neg (by decide), if_neg (by decide)]
        by_cases hn : n < 0
        · rw [if_pos hn, decide_eq_true hn]
          simp only [cond_true]
          exact chk_is
        · rw [if_neg hn, decide_eq_false hn]
          rw [if_pos rfl]
          simp only [cond_false]
          exact chk_is
    · have e : f112 w = some true := by rcases hw with rfl | rfl <;> rfl
      unfold S73_113
      rw [h92s_is h1, e, f112_no (w := o) (by omega) (by omega)]
      unfold sRel1
      rw [if_neg (fun h => h hw), if_pos ho]
      exact chk_is (a := 0) (e := 1) (k := Mm N KK l z4 z5 c0 c1 c0 c1)
  · unfold S73_113
    rw [h92s_is h1, f112_no (w := w) (by omega) (by omega)]
    unfold sRel1
    rw [if_pos hw]
    exact chk_is (a := 0) (e := 1) (k := Mm N KK l z4 z5 c0 c1 c0 c1)
theorem s100_eq (N : Nat) (KK : K73) (l : List El) (z4 z5 : Int) (c0 c1 : Cc) (k : Int) (sec bo : Bool) (w o n : Int) (b : List Int) : S73_100 f84 h86 f93 f108 f23 h88 f94 h87 f95 h92s f112 h97 h92 h86 h88 h87 h92s h97 h92 N KK 2 2 l z4 z5 c0.1 c0.2.1 c0.2.2.1 c0.2.2.2.1 c0.2.2.2.2.1 c0.2.2.2.2.2.1 c0.2.2.2.2.2.2.1 c0.2.2.2.2.2.2.2.1 c0.2.2.2.2.2.2.2.2 c1.1 c1.2.1 c1.2.2.1 c1.2.2.2.1 c1.2.2.2.2.1 c1.2.2.2.2.2.1 c1.2.2.2.2.2.2.1 c1.2.2.2.2.2.2.2.1 c1.2.2.2.2.2.2.2.2 c0.1 c0.2.1 c0.2.2.1 c0.2.2.2.1 c0.2.2.2.2.1 c0.2.2.2.2.2.1 c0.2.2.2.2.2.2.1 c0.2.2.2.2.2.2.2.1 c0.2.2.2.2.2.2.2.2 c1.1 c1.2.1 c1.2.2.1 c1.2.2.2.1 c1.2.2.2.2.1 c1.2.2.2.2.2.1 c1.2.2.2.2.2.2.1 c1.2.2.2.2.2.2.2.1 c1.2.2.2.2.2.2.2.2 (k, (sec, (bo, (w, (o, (n, b)))))) = match h86 w b c1.1 c1.2.1 c1.2.2.1 c1.2.2.2.1 c1.2.2.2.2.1 c1.2.2.2.2.2.1 c1.2.2.2.2.2.2.1 c1.2.2.2.2.2.2.2.1 c1.2.2.2.2.2.2.2.2 with
  | none => none
  | some r => match f93 (c1.1, (c1.2.1, (c1.2.2.1, (c1.2.2.2.1, (c1.2.2.2.2.1, (c1.2.2.2.2.2.1, (c1.2.2.2.2.2.2.1, (c1.2.2.2.2.2.2.2.1, (c1.2.2.2.2.2.2.2.2))))))))) w b with
    | none => none
    | some u => bif (r.1.1 != u.2) then some false else Mm N KK l z4 z5 c0 (uu r.2.1) c0 (u.1) := by kernel_rfl
theorem s100 {N : Nat} (hN : 3 ≤ N) (KK : K73) (l : List El) (z4 z5 : Int) {c0 c1 : Cc} (h0 : okC c0) (h1 : okC c1) (k : Int) (sec bo : Bool) (w o n : Int) {b : List Int} (hb : b.length ≤ 70000) : ∃ c0' c1', okC c0' ∧ okC c1' ∧ S73_100 f84 h86 f93 f108 f23 h88 f94 h87 f95 h92s f112 h97 h92 h86 h88 h87 h92s h97 h92 N KK 2 2 l z4 z5 c0.1 c0.2.1 c0.2.2.1 c0.2.2.2.1 c0.2.2.2.2.1 c0.2.2.2.2.2.1 c0.2.2.2.2.2.2.1 c0.2.2.2.2.2.2.2.1 c0.2.2.2.2.2.2.2.2 c1.1 c1.2.1 c1.2.2.1 c1.2.2.2.1 c1.2.2.2.2.1 c1.2.2.2.2.2.1 c1.2.2.2.2.2.2.1 c1.2.2.2.2.2.2.2.1 c1.2.2.2.2.2.2.2.2 c0.1 c0.2.1 c0.2.2.1 c0.2.2.2.1 c0.2.2.2.2.1 c0.2.2.2.2.2.1 c0.2.2.2.2.2.2.1 c0.2.2.2.2.2.2.2.1 c0.2.2.2.2.2.2.2.2 c1.1 c1.2.1 c1.2.2.1 c1.2.2.2.1 c1.2.2.2.2.1 c1.2.2.2.2.2.1 c1.2.2.2.2.2.2.1 c1.2.2.2.2.2.2.2.1 c1.2.2.2.2.2.2.2.2 (k, (sec, (bo, (w, (o, (n, b)))))) = kk KK l z4 z5 c0' c1' c0' c1' := by
  refine ⟨c0, (sPut c1 w b).1, h0, sPut_ok h1, ?_⟩
  rw [s100_eq, h86_is h1 hb, f93_is h1 hb]
  simp only [bne_self_eq_false, cond_false]
  exact Mm_is hN KK l z4 z5 h0 (sPut_ok h1)
theorem s101_eq (N : Nat) (KK : K73) (l : List El) (z4 z5 : Int) (c0 c1 : Cc) (k : Int) (sec bo : Bool) (w o n : Int) (b : List Int) : S73_101 f84 h86 f93 f108 f23 h88 f94 h87 f95 h92s f112 h97 h92 h86 h88 h87 h92s h97 h92 N KK 2 2 l z4 z5 c0.1 c0.2.1 c0.2.2.1 c0.2.2.2.1 c0.2.2.2.2.1 c0.2.2.2.2.2.1 c0.2.2.2.2.2.2.1 c0.2.2.2.2.2.2.2.1 c0.2.2.2.2.2.2.2.2 c1.1 c1.2.1 c1.2.2.1 c1.2.2.2.1 c1.2.2.2.2.1 c1.2.2.2.2.2.1 c1.2.2.2.2.2.2.1 c1.2.2.2.2.2.2.2.1 c1.2.2.2.2.2.2.2.2 c0.1 c0.2.1 c0.2.2.1 c0.2.2.2.1 c0.2.2.2.2.1 c0.2.2.2.2.2.1 c0.2.2.2.2.2.2.1 c0.2.2.2.2.2.2.2.1 c0.2.2.2.2.2.2.2.2 c1.1 c1.2.1 c1.2.2.1 c1.2.2.2.1 c1.2.2.2.2.1 c1.2.2.2.2.2.1 c1.2.2.2.2.2.2.1 c1.2.2.2.2.2.2.2.1 c1.2.2.2.2.2.2.2.2 (k, (sec, (bo, (w, (o, (n, b)))))) = match h88 w n c1.1 c1.2.1 c1.2.2.1 c1.2.2.2.1 c1.2.2.2.2.1 c1.2.2.2.2.2.1 c1.2.2.2.2.2.2.1 c1.2.2.2.2.2.2.2.1 c1.2.2.2.2.2.2.2.2 with
  | none => none
  | some r => match f94 (c1.1, (c1.2.1, (c1.2.2.1, (c1.2.2.2.1, (c1.2.2.2.2.1, (c1.2.2.2.2.2.1, (c1.2.2.2.2.2.2.1, (c1.2.2.2.2.2.2.2.1, (c1.2.2.2.2.2.2.2.2))))))))) w n with
    | none => none
    | some u => match f23 r.1.1.1 u.2.1 with
      | none => none
      | some e => bif (!e) then some false else bif (r.1.1.2.1 != u.2.2) then some false else Mm N KK l z4 z5 c0 (uu r.2.1) c0 (u.1) := by kernel_rfl
theorem s101 {N : Nat} (hN : 3 ≤ N) (KK : K73) (l : List El) (z4 z5 : Int) {c0 c1 : Cc} (h0 : okC c0) (h1 : okC c1) (k : Int) (sec bo : Bool) (w o n : Int) {b : List Int} (hb : b.length ≤ 70000) : ∃ c0' c1', okC c0' ∧ okC c1' ∧ S73_101 f84 h86 f93 f108 f23 h88 f94 h87 f95 h92s f112 h97 h92 h86 h88 h87 h92s h97 h92 N KK 2 2 l z4 z5 c0.1 c0.2.1 c0.2.2.1 c0.2.2.2.1 c0.2.2.2.2.1 c0.2.2.2.2.2.1 c0.2.2.2.2.2.2.1 c0.2.2.2.2.2.2.2.1 c0.2.2.2.2.2.2.2.2 c1.1 c1.2.1 c1.2.2.1 c1.2.2.2.1 c1.2.2.2.2.1 c1.2.2.2.2.2.1 c1.2.2.2.2.2.2.1 c1.2.2.2.2.2.2.2.1 c1.2.2.2.2.2.2.2.2 c0.1 c0.2.1 c0.2.2.1 c0.2.2.2.1 c0.2.2.2.2.1 c0.2.2.2.2.2.1 c0.2.2.2.2.2.2.1 c0.2.2.2.2.2.2.2.1 c0.2.2.2.2.2.2.2.2 c1.1 c1.2.1 c1.2.2.1 c1.2.2.2.1 c1.2.2.2.2.1 c1.2.2.2.2.2.1 c1.2.2.2.2.2.2.1 c1.2.2.2.2.2.2.2.1 c1.2.2.2.2.2.2.2.2 (k, (sec, (bo, (w, (o, (n, b)))))) = kk KK l z4 z5 c0' c1' c0' c1' := by
  refine ⟨c0, (sTake c1 w n).1, h0, sTake_ok h1, ?_⟩
  rw [s101_eq, h88_is h1, f94_is h1]
  simp only []
  rw [f23_same (sTake_lt h1)]
  simp only [Bool.not_true, bne_self_eq_false, cond_false]
  exact Mm_is hN KK l z4 z5 h0 (sTake_ok h1)
theorem s102_eq (N : Nat) (KK : K73) (l : List El) (z4 z5 : Int) (c0 c1 : Cc) (k : Int) (sec bo : Bool) (w o n : Int) (b : List Int) : S73_102 f84 h86 f93 f108 f23 h88 f94 h87 f95 h92s f112 h97 h92 h86 h88 h87 h92s h97 h92 N KK 2 2 l z4 z5 c0.1 c0.2.1 c0.2.2.1 c0.2.2.2.1 c0.2.2.2.2.1 c0.2.2.2.2.2.1 c0.2.2.2.2.2.2.1 c0.2.2.2.2.2.2.2.1 c0.2.2.2.2.2.2.2.2 c1.1 c1.2.1 c1.2.2.1 c1.2.2.2.1 c1.2.2.2.2.1 c1.2.2.2.2.2.1 c1.2.2.2.2.2.2.1 c1.2.2.2.2.2.2.2.1 c1.2.2.2.2.2.2.2.2 c0.1 c0.2.1 c0.2.2.1 c0.2.2.2.1 c0.2.2.2.2.1 c0.2.2.2.2.2.1 c0.2.2.2.2.2.2.1 c0.2.2.2.2.2.2.2.1 c0.2.2.2.2.2.2.2.2 c1.1 c1.2.1 c1.2.2.1 c1.2.2.2.1 c1.2.2.2.2.1 c1.2.2.2.2.2.1 c1.2.2.2.2.2.2.1 c1.2.2.2.2.2.2.2.1 c1.2.2.2.2.2.2.2.2 (k, (sec, (bo, (w, (o, (n, b)))))) = match h87 w n c1.1 c1.2.1 c1.2.2.1 c1.2.2.2.1 c1.2.2.2.2.1 c1.2.2.2.2.2.1 c1.2.2.2.2.2.2.1 c1.2.2.2.2.2.2.2.1 c1.2.2.2.2.2.2.2.2 with
  | none => none
  | some r => match f95 (c1.1, (c1.2.1, (c1.2.2.1, (c1.2.2.2.1, (c1.2.2.2.2.1, (c1.2.2.2.2.2.1, (c1.2.2.2.2.2.2.1, (c1.2.2.2.2.2.2.2.1, (c1.2.2.2.2.2.2.2.2))))))))) w n with
    | none => none
    | some u => bif (r.1.1.1 != u.2.1) then some false else bif (r.1.1.2.1 != u.2.2) then some false else Mm N KK l z4 z5 c0 (uu r.2.1) c0 (u.1) := by kernel_rfl
theorem s102 {N : Nat} (hN : 3 ≤ N) (KK : K73) (l : List El) (z4 z5 : Int) {c0 c1 : Cc} (h0 : okC c0) (h1 : okC c1) (k : Int) (sec bo : Bool) (w o n : Int) {b : List Int} (hb : b.length ≤ 70000) : ∃ c0' c1', okC c0' ∧ okC c1' ∧ S73_102 f84 h86 f93 f108 f23 h88 f94 h87 f95 h92s f112 h97 h92 h86 h88 h87 h92s h97 h92 N KK 2 2 l z4 z5 c0.1 c0.2.1 c0.2.2.1 c0.2.2.2.1 c0.2.2.2.2.1 c0.2.2.2.2.2.1 c0.2.2.2.2.2.2.1 c0.2.2.2.2.2.2.2.1 c0.2.2.2.2.2.2.2.2 c1.1 c1.2.1 c1.2.2.1 c1.2.2.2.1 c1.2.2.2.2.1 c1.2.2.2.2.2.1 c1.2.2.2.2.2.2.1 c1.2.2.2.2.2.2.2.1 c1.2.2.2.2.2.2.2.2 c0.1 c0.2.1 c0.2.2.1 c0.2.2.2.1 c0.2.2.2.2.1 c0.2.2.2.2.2.1 c0.2.2.2.2.2.2.1 c0.2.2.2.2.2.2.2.1 c0.2.2.2.2.2.2.2.2 c1.1 c1.2.1 c1.2.2.1 c1.2.2.2.1 c1.2.2.2.2.1 c1.2.2.2.2.2.1 c1.2.2.2.2.2.2.1 c1.2.2.2.2.2.2.2.1 c1.2.2.2.2.2.2.2.2 (k, (sec, (bo, (w, (o, (n, b)))))) = kk KK l z4 z5 c0' c1' c0' c1' := by
  refine ⟨c0, (sLose c1 w n).1, h0, sLose_ok h1, ?_⟩
  rw [s102_eq, h87_is h1, f95_is h1]
  simp only [bne_self_eq_false, cond_false]
  exact Mm_is hN KK l z4 z5 h0 (sLose_ok h1)
theorem s104 {N : Nat} (hN : 3 ≤ N) (KK : K73) (l : List El) (z4 z5 : Int) {c0 c1 : Cc} (h0 : okC c0) (h1 : okC c1) (k : Int) (sec bo : Bool) (w o n : Int) {b : List Int} (hb : b.length ≤ 70000) : ∃ c0' c1', okC c0' ∧ okC c1' ∧ S73_104 f84 h86 f93 f108 f23 h88 f94 h87 f95 h92s f112 h97 h92 h86 h88 h87 h92s h97 h92 N KK 2 2 l z4 z5 c0.1 c0.2.1 c0.2.2.1 c0.2.2.2.1 c0.2.2.2.2.1 c0.2.2.2.2.2.1 c0.2.2.2.2.2.2.1 c0.2.2.2.2.2.2.2.1 c0.2.2.2.2.2.2.2.2 c1.1 c1.2.1 c1.2.2.1 c1.2.2.2.1 c1.2.2.2.2.1 c1.2.2.2.2.2.1 c1.2.2.2.2.2.2.1 c1.2.2.2.2.2.2.2.1 c1.2.2.2.2.2.2.2.2 c0.1 c0.2.1 c0.2.2.1 c0.2.2.2.1 c0.2.2.2.2.1 c0.2.2.2.2.2.1 c0.2.2.2.2.2.2.1 c0.2.2.2.2.2.2.2.1 c0.2.2.2.2.2.2.2.2 c1.1 c1.2.1 c1.2.2.1 c1.2.2.2.1 c1.2.2.2.2.1 c1.2.2.2.2.2.1 c1.2.2.2.2.2.2.1 c1.2.2.2.2.2.2.2.1 c1.2.2.2.2.2.2.2.2 (k, (sec, (bo, (w, (o, (n, b)))))) = kk KK l z4 z5 c0' c1' c0' c1' := by
  refine ⟨c0, (c1.1, (c1.2.1, (c1.2.2.1, (c1.2.2.2.1, (c1.2.2.2.2.1, (c1.2.2.2.2.2.1, (c1.2.2.2.2.2.2.1, (c1.2.2.2.2.2.2.2.1, true)))))))), h0, h1, ?_⟩
  have e : S73_104 f84 h86 f93 f108 f23 h88 f94 h87 f95 h92s f112 h97 h92 h86 h88 h87 h92s h97 h92 N KK 2 2 l z4 z5 c0.1 c0.2.1 c0.2.2.1 c0.2.2.2.1 c0.2.2.2.2.1 c0.2.2.2.2.2.1 c0.2.2.2.2.2.2.1 c0.2.2.2.2.2.2.2.1 c0.2.2.2.2.2.2.2.2 c1.1 c1.2.1 c1.2.2.1 c1.2.2.2.1 c1.2.2.2.2.1 c1.2.2.2.2.2.1 c1.2.2.2.2.2.2.1 c1.2.2.2.2.2.2.2.1 c1.2.2.2.2.2.2.2.2 c0.1 c0.2.1 c0.2.2.1 c0.2.2.2.1 c0.2.2.2.2.1 c0.2.2.2.2.2.1 c0.2.2.2.2.2.2.1 c0.2.2.2.2.2.2.2.1 c0.2.2.2.2.2.2.2.2 c1.1 c1.2.1 c1.2.2.1 c1.2.2.2.1 c1.2.2.2.2.1 c1.2.2.2.2.2.1 c1.2.2.2.2.2.2.1 c1.2.2.2.2.2.2.2.1 c1.2.2.2.2.2.2.2.2 (k, (sec, (bo, (w, (o, (n, b)))))) = Mm N KK l z4 z5 c0 ((c1.1, (c1.2.1, (c1.2.2.1, (c1.2.2.2.1, (c1.2.2.2.2.1, (c1.2.2.2.2.2.1, (c1.2.2.2.2.2.2.1, (c1.2.2.2.2.2.2.2.1, true))))))))) c0 ((c1.1, (c1.2.1, (c1.2.2.1, (c1.2.2.2.1, (c1.2.2.2.2.1, (c1.2.2.2.2.2.1, (c1.2.2.2.2.2.2.1, (c1.2.2.2.2.2.2.2.1, true))))))))) := by kernel_rfl
  rw [e]
  exact Mm_is hN KK l z4 z5 h0 (show okC (c1.1, (c1.2.1, (c1.2.2.1, (c1.2.2.2.1, (c1.2.2.2.2.1, (c1.2.2.2.2.2.1, (c1.2.2.2.2.2.2.1, (c1.2.2.2.2.2.2.2.1, true)))))))) from h1)
theorem s103_00 (N : Nat) (KK : K73) (l : List El) (z4 z5 : Int) (c0 c1 : Cc) (k : Int) (sec bo : Bool) (n : Int) (b : List Int) : S73_103 f84 h86 f93 f108 f23 h88 f94 h87 f95 h92s f112 h97 h92 h86 h88 h87 h92s h97 h92 N KK 2 2 l z4 z5 c0.1 c0.2.1 c0.2.2.1 c0.2.2.2.1 c0.2.2.2.2.1 c0.2.2.2.2.2.1 c0.2.2.2.2.2.2.1 c0.2.2.2.2.2.2.2.1 c0.2.2.2.2.2.2.2.2 c1.1 c1.2.1 c1.2.2.1 c1.2.2.2.1 c1.2.2.2.2.1 c1.2.2.2.2.2.1 c1.2.2.2.2.2.2.1 c1.2.2.2.2.2.2.2.1 c1.2.2.2.2.2.2.2.2 c0.1 c0.2.1 c0.2.2.1 c0.2.2.2.1 c0.2.2.2.2.1 c0.2.2.2.2.2.1 c0.2.2.2.2.2.2.1 c0.2.2.2.2.2.2.2.1 c0.2.2.2.2.2.2.2.2 c1.1 c1.2.1 c1.2.2.1 c1.2.2.2.1 c1.2.2.2.2.1 c1.2.2.2.2.2.1 c1.2.2.2.2.2.2.1 c1.2.2.2.2.2.2.2.1 c1.2.2.2.2.2.2.2.2 (k, (sec, (bo, (0, (0, (n, b)))))) = match h92 0 0 n c1.1 c1.2.1 c1.2.2.1 c1.2.2.2.1 c1.2.2.2.2.1 c1.2.2.2.2.2.1 c1.2.2.2.2.2.2.1 c1.2.2.2.2.2.2.2.1 c1.2.2.2.2.2.2.2.2 c0.1 c0.2.1 c0.2.2.1 c0.2.2.2.1 c0.2.2.2.2.1 c0.2.2.2.2.2.1 c0.2.2.2.2.2.2.1 c0.2.2.2.2.2.2.2.1 c0.2.2.2.2.2.2.2.2 with
  | none => none
  | some r => bif decide (n < 0) then chk r.1 0 1 (Mm N KK l z4 z5 (uu r.2.2.1) (uu r.2.1) (c0) (c1)) else bif c0.2.2.2.2.2.2.2.2 then chk r.1 0 11 (Mm N KK l z4 z5 (uu r.2.2.1) (uu r.2.1) (c0) (c1)) else bif decide (iadd .i64 ((c0.1.length : Nat) : Int) (if ((c1.1.length : Nat) : Int) < n then ((c1.1.length : Nat) : Int) else n) > 65536) then chk r.1 0 12 (Mm N KK l z4 z5 (uu r.2.2.1) (uu r.2.1) (c0) (c1)) else match f94 (c1.1, (c1.2.1, (c1.2.2.1, (c1.2.2.2.1, (c1.2.2.2.2.1, (c1.2.2.2.2.2.1, (c1.2.2.2.2.2.2.1, (c1.2.2.2.2.2.2.2.1, (c1.2.2.2.2.2.2.2.2))))))))) 0 n with
    | none => none
    | some t => match f93 (c0.1, (c0.2.1, (c0.2.2.1, (c0.2.2.2.1, (c0.2.2.2.2.1, (c0.2.2.2.2.2.1, (c0.2.2.2.2.2.2.1, (c0.2.2.2.2.2.2.2.1, (c0.2.2.2.2.2.2.2.2))))))))) 0 t.2.1 with
      | none => none
      | some v => chk r.1 ((t.2.1.length : Nat) : Int) 0 (Mm N KK l z4 z5 (uu r.2.2.1) (uu r.2.1) (v.1) (t.1)) := by kernel_rfl
theorem s103_01 (N : Nat) (KK : K73) (l : List El) (z4 z5 : Int) (c0 c1 : Cc) (k : Int) (sec bo : Bool) (n : Int) (b : List Int) : S73_103 f84 h86 f93 f108 f23 h88 f94 h87 f95 h92s f112 h97 h92 h86 h88 h87 h92s h97 h92 N KK 2 2 l z4 z5 c0.1 c0.2.1 c0.2.2.1 c0.2.2.2.1 c0.2.2.2.2.1 c0.2.2.2.2.2.1 c0.2.2.2.2.2.2.1 c0.2.2.2.2.2.2.2.1 c0.2.2.2.2.2.2.2.2 c1.1 c1.2.1 c1.2.2.1 c1.2.2.2.1 c1.2.2.2.2.1 c1.2.2.2.2.2.1 c1.2.2.2.2.2.2.1 c1.2.2.2.2.2.2.2.1 c1.2.2.2.2.2.2.2.2 c0.1 c0.2.1 c0.2.2.1 c0.2.2.2.1 c0.2.2.2.2.1 c0.2.2.2.2.2.1 c0.2.2.2.2.2.2.1 c0.2.2.2.2.2.2.2.1 c0.2.2.2.2.2.2.2.2 c1.1 c1.2.1 c1.2.2.1 c1.2.2.2.1 c1.2.2.2.2.1 c1.2.2.2.2.2.1 c1.2.2.2.2.2.2.1 c1.2.2.2.2.2.2.2.1 c1.2.2.2.2.2.2.2.2 (k, (sec, (bo, (0, (1, (n, b)))))) = match h92 0 1 n c1.1 c1.2.1 c1.2.2.1 c1.2.2.2.1 c1.2.2.2.2.1 c1.2.2.2.2.2.1 c1.2.2.2.2.2.2.1 c1.2.2.2.2.2.2.2.1 c1.2.2.2.2.2.2.2.2 c0.1 c0.2.1 c0.2.2.1 c0.2.2.2.1 c0.2.2.2.2.1 c0.2.2.2.2.2.1 c0.2.2.2.2.2.2.1 c0.2.2.2.2.2.2.2.1 c0.2.2.2.2.2.2.2.2 with
  | none => none
  | some r => bif decide (n < 0) then chk r.1 0 1 (Mm N KK l z4 z5 (uu r.2.2.1) (uu r.2.1) (c0) (c1)) else bif c0.2.2.2.2.2.2.2.2 then chk r.1 0 11 (Mm N KK l z4 z5 (uu r.2.2.1) (uu r.2.1) (c0) (c1)) else bif decide (iadd .i64 ((c0.2.2.2.2.1.length : Nat) : Int) (if ((c1.1.length : Nat) : Int) < n then ((c1.1.length : Nat) : Int) else n) > 65536) then chk r.1 0 12 (Mm N KK l z4 z5 (uu r.2.2.1) (uu r.2.1) (c0) (c1)) else match f94 (c1.1, (c1.2.1, (c1.2.2.1, (c1.2.2.2.1, (c1.2.2.2.2.1, (c1.2.2.2.2.2.1, (c1.2.2.2.2.2.2.1, (c1.2.2.2.2.2.2.2.1, (c1.2.2.2.2.2.2.2.2))))))))) 0 n with
    | none => none
    | some t => match f93 (c0.1, (c0.2.1, (c0.2.2.1, (c0.2.2.2.1, (c0.2.2.2.2.1, (c0.2.2.2.2.2.1, (c0.2.2.2.2.2.2.1, (c0.2.2.2.2.2.2.2.1, (c0.2.2.2.2.2.2.2.2))))))))) 1 t.2.1 with
      | none => none
      | some v => chk r.1 ((t.2.1.length : Nat) : Int) 0 (Mm N KK l z4 z5 (uu r.2.2.1) (uu r.2.1) (v.1) (t.1)) := by kernel_rfl
theorem s103_10 (N : Nat) (KK : K73) (l : List El) (z4 z5 : Int) (c0 c1 : Cc) (k : Int) (sec bo : Bool) (n : Int) (b : List Int) : S73_103 f84 h86 f93 f108 f23 h88 f94 h87 f95 h92s f112 h97 h92 h86 h88 h87 h92s h97 h92 N KK 2 2 l z4 z5 c0.1 c0.2.1 c0.2.2.1 c0.2.2.2.1 c0.2.2.2.2.1 c0.2.2.2.2.2.1 c0.2.2.2.2.2.2.1 c0.2.2.2.2.2.2.2.1 c0.2.2.2.2.2.2.2.2 c1.1 c1.2.1 c1.2.2.1 c1.2.2.2.1 c1.2.2.2.2.1 c1.2.2.2.2.2.1 c1.2.2.2.2.2.2.1 c1.2.2.2.2.2.2.2.1 c1.2.2.2.2.2.2.2.2 c0.1 c0.2.1 c0.2.2.1 c0.2.2.2.1 c0.2.2.2.2.1 c0.2.2.2.2.2.1 c0.2.2.2.2.2.2.1 c0.2.2.2.2.2.2.2.1 c0.2.2.2.2.2.2.2.2 c1.1 c1.2.1 c1.2.2.1 c1.2.2.2.1 c1.2.2.2.2.1 c1.2.2.2.2.2.1 c1.2.2.2.2.2.2.1 c1.2.2.2.2.2.2.2.1 c1.2.2.2.2.2.2.2.2 (k, (sec, (bo, (1, (0, (n, b)))))) = match h92 1 0 n c1.1 c1.2.1 c1.2.2.1 c1.2.2.2.1 c1.2.2.2.2.1 c1.2.2.2.2.2.1 c1.2.2.2.2.2.2.1 c1.2.2.2.2.2.2.2.1 c1.2.2.2.2.2.2.2.2 c0.1 c0.2.1 c0.2.2.1 c0.2.2.2.1 c0.2.2.2.2.1 c0.2.2.2.2.2.1 c0.2.2.2.2.2.2.1 c0.2.2.2.2.2.2.2.1 c0.2.2.2.2.2.2.2.2 with
  | none => none
  | some r => bif decide (n < 0) then chk r.1 0 1 (Mm N KK l z4 z5 (uu r.2.2.1) (uu r.2.1) (c0) (c1)) else bif c0.2.2.2.2.2.2.2.2 then chk r.1 0 11 (Mm N KK l z4 z5 (uu r.2.2.1) (uu r.2.1) (c0) (c1)) else bif decide (iadd .i64 ((c0.1.length : Nat) : Int) (if ((c1.2.2.2.2.1.length : Nat) : Int) < n then ((c1.2.2.2.2.1.length : Nat) : Int) else n) > 65536) then chk r.1 0 12 (Mm N KK l z4 z5 (uu r.2.2.1) (uu r.2.1) (c0) (c1)) else match f94 (c1.1, (c1.2.1, (c1.2.2.1, (c1.2.2.2.1, (c1.2.2.2.2.1, (c1.2.2.2.2.2.1, (c1.2.2.2.2.2.2.1, (c1.2.2.2.2.2.2.2.1, (c1.2.2.2.2.2.2.2.2))))))))) 1 n with
    | none => none
    | some t => match f93 (c0.1, (c0.2.1, (c0.2.2.1, (c0.2.2.2.1, (c0.2.2.2.2.1, (c0.2.2.2.2.2.1, (c0.2.2.2.2.2.2.1, (c0.2.2.2.2.2.2.2.1, (c0.2.2.2.2.2.2.2.2))))))))) 0 t.2.1 with
      | none => none
      | some v => chk r.1 ((t.2.1.length : Nat) : Int) 0 (Mm N KK l z4 z5 (uu r.2.2.1) (uu r.2.1) (v.1) (t.1)) := by kernel_rfl
theorem s103_11 (N : Nat) (KK : K73) (l : List El) (z4 z5 : Int) (c0 c1 : Cc) (k : Int) (sec bo : Bool) (n : Int) (b : List Int) : S73_103 f84 h86 f93 f108 f23 h88 f94 h87 f95 h92s f112 h97 h92 h86 h88 h87 h92s h97 h92 N KK 2 2 l z4 z5 c0.1 c0.2.1 c0.2.2.1 c0.2.2.2.1 c0.2.2.2.2.1 c0.2.2.2.2.2.1 c0.2.2.2.2.2.2.1 c0.2.2.2.2.2.2.2.1 c0.2.2.2.2.2.2.2.2 c1.1 c1.2.1 c1.2.2.1 c1.2.2.2.1 c1.2.2.2.2.1 c1.2.2.2.2.2.1 c1.2.2.2.2.2.2.1 c1.2.2.2.2.2.2.2.1 c1.2.2.2.2.2.2.2.2 c0.1 c0.2.1 c0.2.2.1 c0.2.2.2.1 c0.2.2.2.2.1 c0.2.2.2.2.2.1 c0.2.2.2.2.2.2.1 c0.2.2.2.2.2.2.2.1 c0.2.2.2.2.2.2.2.2 c1.1 c1.2.1 c1.2.2.1 c1.2.2.2.1 c1.2.2.2.2.1 c1.2.2.2.2.2.1 c1.2.2.2.2.2.2.1 c1.2.2.2.2.2.2.2.1 c1.2.2.2.2.2.2.2.2 (k, (sec, (bo, (1, (1, (n, b)))))) = match h92 1 1 n c1.1 c1.2.1 c1.2.2.1 c1.2.2.2.1 c1.2.2.2.2.1 c1.2.2.2.2.2.1 c1.2.2.2.2.2.2.1 c1.2.2.2.2.2.2.2.1 c1.2.2.2.2.2.2.2.2 c0.1 c0.2.1 c0.2.2.1 c0.2.2.2.1 c0.2.2.2.2.1 c0.2.2.2.2.2.1 c0.2.2.2.2.2.2.1 c0.2.2.2.2.2.2.2.1 c0.2.2.2.2.2.2.2.2 with
  | none => none
  | some r => bif decide (n < 0) then chk r.1 0 1 (Mm N KK l z4 z5 (uu r.2.2.1) (uu r.2.1) (c0) (c1)) else bif c0.2.2.2.2.2.2.2.2 then chk r.1 0 11 (Mm N KK l z4 z5 (uu r.2.2.1) (uu r.2.1) (c0) (c1)) else bif decide (iadd .i64 ((c0.2.2.2.2.1.length : Nat) : Int) (if ((c1.2.2.2.2.1.length : Nat) : Int) < n then ((c1.2.2.2.2.1.length : Nat) : Int) else n) > 65536) then chk r.1 0 12 (Mm N KK l z4 z5 (uu r.2.2.1) (uu r.2.1) (c0) (c1)) else match f94 (c1.1, (c1.2.1, (c1.2.2.1, (c1.2.2.2.1, (c1.2.2.2.2.1, (c1.2.2.2.2.2.1, (c1.2.2.2.2.2.2.1, (c1.2.2.2.2.2.2.2.1, (c1.2.2.2.2.2.2.2.2))))))))) 1 n with
    | none => none
    | some t => match f93 (c0.1, (c0.2.1, (c0.2.2.1, (c0.2.2.2.1, (c0.2.2.2.2.1, (c0.2.2.2.2.2.1, (c0.2.2.2.2.2.2.1, (c0.2.2.2.2.2.2.2.1, (c0.2.2.2.2.2.2.2.2))))))))) 1 t.2.1 with
      | none => none
      | some v => chk r.1 ((t.2.1.length : Nat) : Int) 0 (Mm N KK l z4 z5 (uu r.2.2.1) (uu r.2.1) (v.1) (t.1)) := by kernel_rfl
theorem s103 {N : Nat} (hN : 3 ≤ N) (KK : K73) (l : List El) (z4 z5 : Int) {c0 c1 : Cc} (h0 : okC c0) (h1 : okC c1) (k : Int) (sec bo : Bool) (w o n : Int) {b : List Int} (hb : b.length ≤ 70000) : ∃ c0' c1', okC c0' ∧ okC c1' ∧ S73_103 f84 h86 f93 f108 f23 h88 f94 h87 f95 h92s f112 h97 h92 h86 h88 h87 h92s h97 h92 N KK 2 2 l z4 z5 c0.1 c0.2.1 c0.2.2.1 c0.2.2.2.1 c0.2.2.2.2.1 c0.2.2.2.2.2.1 c0.2.2.2.2.2.2.1 c0.2.2.2.2.2.2.2.1 c0.2.2.2.2.2.2.2.2 c1.1 c1.2.1 c1.2.2.1 c1.2.2.2.1 c1.2.2.2.2.1 c1.2.2.2.2.2.1 c1.2.2.2.2.2.2.1 c1.2.2.2.2.2.2.2.1 c1.2.2.2.2.2.2.2.2 c0.1 c0.2.1 c0.2.2.1 c0.2.2.2.1 c0.2.2.2.2.1 c0.2.2.2.2.2.1 c0.2.2.2.2.2.2.1 c0.2.2.2.2.2.2.2.1 c0.2.2.2.2.2.2.2.2 c1.1 c1.2.1 c1.2.2.1 c1.2.2.2.1 c1.2.2.2.2.1 c1.2.2.2.2.2.1 c1.2.2.2.2.2.2.1 c1.2.2.2.2.2.2.2.1 c1.2.2.2.2.2.2.2.2 (k, (sec, (bo, (w, (o, (n, b)))))) = kk KK l z4 z5 c0' c1' c0' c1' := by
  refine ⟨(sRel c1 c0 w o n).1.2, (sRel c1 c0 w o n).1.1, (sRel_ok h1 h0).2, (sRel_ok h1 h0).1, ?_⟩
  rw [← Mm_is hN KK l z4 z5 (sRel_ok h1 h0).2 (sRel_ok h1 h0).1]
  by_cases hw : w = 0 ∨ w = 1
  · by_cases ho : o = 0 ∨ o = 1
    · rcases hw with rfl | rfl <;> rcases ho with rfl | rfl
      · rw [s103_00, h92_is h1 h0]
        unfold sRel
        rw [if_neg (by decide), if_neg (by decide)]
        by_cases hn : n < 0
        · rw [if_pos hn, decide_eq_true hn]
          simp only [cond_true]
          exact chk_is
        · rw [if_neg hn, decide_eq_false hn]
          have e : (if (((wb c1 0).length : Nat) : Int) < n then (((wb c1 0).length : Nat) : Int) else n) = ((cutN (wb c1 0) n : Nat) : Int) := mnI_is hn
          have hl := cutN_le (wb c1 0) n
          have hw := wb_le (w := 0) h1
          have hq := wb_le (w := 0) h0
          by_cases hs : c0.2.2.2.2.2.2.2.2 = true
          · rw [if_pos hs]
            simp only [cond_false]
            rw [bif_t hs]
            exact chk_is
          · rw [if_neg hs]
            simp only [cond_false]
            rw [bif_f (Bool.eq_false_iff.2 hs), show (if (((c1.1).length : Nat) : Int) < n then (((c1.1).length : Nat) : Int) else n) = ((cutN (wb c1 0) n : Nat) : Int) from e, show iadd .i64 (((c0.1).length : Nat) : Int) ((cutN (wb c1 0) n : Nat) : Int) = (((wb c0 0).length + cutN (wb c1 0) n : Nat) : Int) from addL hq (by omega)]
            by_cases hf : 65536 < (wb c0 0).length + cutN (wb c1 0) n
            · rw [if_pos hf, decide_eq_true (by omega), cond_true]
              exact chk_is
            · rw [if_neg hf, decide_eq_false (by omega), cond_false, f94_is h1]
              simp only []
              rw [f93_is h0 (by rw [sTake_len (by omega) hn]; omega)]
              exact chk_is
      · rw [s103_01, h92_is h1 h0]
        unfold sRel
        rw [if_neg (by decide), if_neg (by decide)]
        by_cases hn : n < 0
        · rw [if_pos hn, decide_eq_true hn]
          simp only [cond_true]
          exact chk_is
        · rw [if_neg hn, decide_eq_false hn]
          have e : (if (((wb c1 0).length : Nat) : Int) < n then (((wb c1 0).length : Nat) : Int) else n) = ((cutN (wb c1 0) n : Nat) : Int) := mnI_is hn
          have hl := cutN_le (wb c1 0) n
          have hw := wb_le (w := 0) h1
          have hq := wb_le (w := 1) h0
          by_cases hs : c0.2.2.2.2.2.2.2.2 = true
          · rw [if_pos hs]
            simp only [cond_false]
            rw [bif_t hs]
            exact chk_is
          · rw [if_neg hs]
            simp only [cond_false]
            rw [bif_f (Bool.eq_false_iff.2 hs), show (if (((c1.1).length : Nat) : Int) < n then (((c1.1).length : Nat) : Int) else n) = ((cutN (wb c1 0) n : Nat) : Int) from e, show iadd .i64 (((c0.2.2.2.2.1).length : Nat) : Int) ((cutN (wb c1 0) n : Nat) : Int) = (((wb c0 1).length + cutN (wb c1 0) n : Nat) : Int) from addL hq (by omega)]
            by_cases hf : 65536 < (wb c0 1).length + cutN (wb c1 0) n
            · rw [if_pos hf, decide_eq_true (by omega), cond_true]
              exact chk_is
            · rw [if_neg hf, decide_eq_false (by omega), cond_false, f94_is h1]
              simp only []
              rw [f93_is h0 (by rw [sTake_len (by omega) hn]; omega)]
              exact chk_is
      · rw [s103_10, h92_is h1 h0]
        unfold sRel
        rw [if_neg (by decide), if_neg (by decide)]
        by_cases hn : n < 0
        · rw [if_pos hn, decide_eq_true hn]
          simp only [cond_true]
          exact chk_is
        · rw [if_neg hn, decide_eq_false hn]
          have e : (if (((wb c1 1).length : Nat) : Int) < n then (((wb c1 1).length : Nat) : Int) else n) = ((cutN (wb c1 1) n : Nat) : Int) := mnI_is hn
          have hl := cutN_le (wb c1 1) n
          have hw := wb_le (w := 1) h1
          have hq := wb_le (w := 0) h0
          by_cases hs : c0.2.2.2.2.2.2.2.2 = true
          · rw [if_pos hs]
            simp only [cond_false]
            rw [bif_t hs]
            exact chk_is
          · rw [if_neg hs]
            simp only [cond_false]
            rw [bif_f (Bool.eq_false_iff.2 hs), show (if (((c1.2.2.2.2.1).length : Nat) : Int) < n then (((c1.2.2.2.2.1).length : Nat) : Int) else n) = ((cutN (wb c1 1) n : Nat) : Int) from e, show iadd .i64 (((c0.1).length : Nat) : Int) ((cutN (wb c1 1) n : Nat) : Int) = (((wb c0 0).length + cutN (wb c1 1) n : Nat) : Int) from addL hq (by omega)]
            by_cases hf : 65536 < (wb c0 0).length + cutN (wb c1 1) n
            · rw [if_pos hf, decide_eq_true (by omega), cond_true]
              exact chk_is
            · rw [if_neg hf, decide_eq_false (by omega), cond_false, f94_is h1]
              simp only []
              rw [f93_is h0 (by rw [sTake_len (by omega) hn]; omega)]
              exact chk_is
      · rw [s103_11, h92_is h1 h0]
        unfold sRel
        rw [if_neg (by decide), if_neg (by decide)]
        by_cases hn : n < 0
        · rw [if_pos hn, decide_eq_true hn]
          simp only [cond_true]
          exact chk_is
        · rw [if_neg hn, decide_eq_false hn]
          have e : (if (((wb c1 1).length : Nat) : Int) < n then (((wb c1 1).length : Nat) : Int) else n) = ((cutN (wb c1 1) n : Nat) : Int) := mnI_is hn
          have hl := cutN_le (wb c1 1) n
          have hw := wb_le (w := 1) h1
          have hq := wb_le (w := 1) h0
          by_cases hs : c0.2.2.2.2.2.2.2.2 = true
          · rw [if_pos hs]
            simp only [cond_false]
            rw [bif_t hs]
            exact chk_is
          · rw [if_neg hs]
            simp only [cond_false]
            rw [bif_f (Bool.eq_false_iff.2 hs), show (if (((c1.2.2.2.2.1).length : Nat) : Int) < n then (((c1.2.2.2.2.1).length : Nat) : Int) else n) = ((cutN (wb c1 1) n : Nat) : Int) from e, show iadd .i64 (((c0.2.2.2.2.1).length : Nat) : Int) ((cutN (wb c1 1) n : Nat) : Int) = (((wb c0 1).length + cutN (wb c1 1) n : Nat) : Int) from addL hq (by omega)]
            by_cases hf : 65536 < (wb c0 1).length + cutN (wb c1 1) n
            · rw [if_pos hf, decide_eq_true (by omega), cond_true]
              exact chk_is
            · rw [if_neg hf, decide_eq_false (by omega), cond_false, f94_is h1]
              simp only []
              rw [f93_is h0 (by rw [sTake_len (by omega) hn]; omega)]
              exact chk_is
    · have e : f112 w = some true := by rcases hw with rfl | rfl <;> rfl
      unfold S73_103
      rw [h92_is h1 h0, e, f112_no (w := o) (by omega) (by omega)]
      unfold sRel
      rw [if_neg (fun h => h hw), if_pos ho]
      exact chk_is (a := 0) (e := 1) (k := Mm N KK l z4 z5 c0 c1 c0 c1)
  · unfold S73_103
    rw [h92_is h1 h0, f112_no (w := w) (by omega) (by omega)]
    unfold sRel
    rw [if_pos hw]
    exact chk_is (a := 0) (e := 1) (k := Mm N KK l z4 z5 c0 c1 c0 c1)
theorem s010_eq (N : Nat) (KK : K73) (l : List El) (z4 z5 : Int) (c0 c1 : Cc) (k : Int) (sec bo : Bool) (w o n : Int) (b : List Int) : S73_010 f84 h86 f93 f108 f23 h88 f94 h87 f95 h92s f112 h97 h92 h86 h88 h87 h92s h97 h92 N KK 2 2 l z4 z5 c0.1 c0.2.1 c0.2.2.1 c0.2.2.2.1 c0.2.2.2.2.1 c0.2.2.2.2.2.1 c0.2.2.2.2.2.2.1 c0.2.2.2.2.2.2.2.1 c0.2.2.2.2.2.2.2.2 c1.1 c1.2.1 c1.2.2.1 c1.2.2.2.1 c1.2.2.2.2.1 c1.2.2.2.2.2.1 c1.2.2.2.2.2.2.1 c1.2.2.2.2.2.2.2.1 c1.2.2.2.2.2.2.2.2 c0.1 c0.2.1 c0.2.2.1 c0.2.2.2.1 c0.2.2.2.2.1 c0.2.2.2.2.2.1 c0.2.2.2.2.2.2.1 c0.2.2.2.2.2.2.2.1 c0.2.2.2.2.2.2.2.2 c1.1 c1.2.1 c1.2.2.1 c1.2.2.2.1 c1.2.2.2.2.1 c1.2.2.2.2.2.1 c1.2.2.2.2.2.2.1 c1.2.2.2.2.2.2.2.1 c1.2.2.2.2.2.2.2.2 (k, (sec, (bo, (w, (o, (n, b)))))) = match h86 w b c0.1 c0.2.1 c0.2.2.1 c0.2.2.2.1 c0.2.2.2.2.1 c0.2.2.2.2.2.1 c0.2.2.2.2.2.2.1 c0.2.2.2.2.2.2.2.1 c0.2.2.2.2.2.2.2.2 with
  | none => none
  | some r => match f93 (c0.1, (c0.2.1, (c0.2.2.1, (c0.2.2.2.1, (c0.2.2.2.2.1, (c0.2.2.2.2.2.1, (c0.2.2.2.2.2.2.1, (c0.2.2.2.2.2.2.2.1, (c0.2.2.2.2.2.2.2.2))))))))) w b with
    | none => none
    | some u => bif (r.1.1 != u.2) then some false else Mm N KK l z4 z5 (uu r.2.1) c1 (u.1) c1 := by kernel_rfl
theorem s010 {N : Nat} (hN : 3 ≤ N) (KK : K73) (l : List El) (z4 z5 : Int) {c0 c1 : Cc} (h0 : okC c0) (h1 : okC c1) (k : Int) (sec bo : Bool) (w o n : Int) {b : List Int} (hb : b.length ≤ 70000) : ∃ c0' c1', okC c0' ∧ okC c1' ∧ S73_010 f84 h86 f93 f108 f23 h88 f94 h87 f95 h92s f112 h97 h92 h86 h88 h87 h92s h97 h92 N KK 2 2 l z4 z5 c0.1 c0.2.1 c0.2.2.1 c0.2.2.2.1 c0.2.2.2.2.1 c0.2.2.2.2.2.1 c0.2.2.2.2.2.2.1 c0.2.2.2.2.2.2.2.1 c0.2.2.2.2.2.2.2.2 c1.1 c1.2.1 c1.2.2.1 c1.2.2.2.1 c1.2.2.2.2.1 c1.2.2.2.2.2.1 c1.2.2.2.2.2.2.1 c1.2.2.2.2.2.2.2.1 c1.2.2.2.2.2.2.2.2 c0.1 c0.2.1 c0.2.2.1 c0.2.2.2.1 c0.2.2.2.2.1 c0.2.2.2.2.2.1 c0.2.2.2.2.2.2.1 c0.2.2.2.2.2.2.2.1 c0.2.2.2.2.2.2.2.2 c1.1 c1.2.1 c1.2.2.1 c1.2.2.2.1 c1.2.2.2.2.1 c1.2.2.2.2.2.1 c1.2.2.2.2.2.2.1 c1.2.2.2.2.2.2.2.1 c1.2.2.2.2.2.2.2.2 (k, (sec, (bo, (w, (o, (n, b)))))) = kk KK l z4 z5 c0' c1' c0' c1' := by
  refine ⟨(sPut c0 w b).1, c1, sPut_ok h0, h1, ?_⟩
  rw [s010_eq, h86_is h0 hb, f93_is h0 hb]
  simp only [bne_self_eq_false, cond_false]
  exact Mm_is hN KK l z4 z5 (sPut_ok h0) h1
theorem s011_eq (N : Nat) (KK : K73) (l : List El) (z4 z5 : Int) (c0 c1 : Cc) (k : Int) (sec bo : Bool) (w o n : Int) (b : List Int) : S73_011 f84 h86 f93 f108 f23 h88 f94 h87 f95 h92s f112 h97 h92 h86 h88 h87 h92s h97 h92 N KK 2 2 l z4 z5 c0.1 c0.2.1 c0.2.2.1 c0.2.2.2.1 c0.2.2.2.2.1 c0.2.2.2.2.2.1 c0.2.2.2.2.2.2.1 c0.2.2.2.2.2.2.2.1 c0.2.2.2.2.2.2.2.2 c1.1 c1.2.1 c1.2.2.1 c1.2.2.2.1 c1.2.2.2.2.1 c1.2.2.2.2.2.1 c1.2.2.2.2.2.2.1 c1.2.2.2.2.2.2.2.1 c1.2.2.2.2.2.2.2.2 c0.1 c0.2.1 c0.2.2.1 c0.2.2.2.1 c0.2.2.2.2.1 c0.2.2.2.2.2.1 c0.2.2.2.2.2.2.1 c0.2.2.2.2.2.2.2.1 c0.2.2.2.2.2.2.2.2 c1.1 c1.2.1 c1.2.2.1 c1.2.2.2.1 c1.2.2.2.2.1 c1.2.2.2.2.2.1 c1.2.2.2.2.2.2.1 c1.2.2.2.2.2.2.2.1 c1.2.2.2.2.2.2.2.2 (k, (sec, (bo, (w, (o, (n, b)))))) = match h88 w n c0.1 c0.2.1 c0.2.2.1 c0.2.2.2.1 c0.2.2.2.2.1 c0.2.2.2.2.2.1 c0.2.2.2.2.2.2.1 c0.2.2.2.2.2.2.2.1 c0.2.2.2.2.2.2.2.2 with
  | none => none
  | some r => match f94 (c0.1, (c0.2.1, (c0.2.2.1, (c0.2.2.2.1, (c0.2.2.2.2.1, (c0.2.2.2.2.2.1, (c0.2.2.2.2.2.2.1, (c0.2.2.2.2.2.2.2.1, (c0.2.2.2.2.2.2.2.2))))))))) w n with
    | none => none
    | some u => match f23 r.1.1.1 u.2.1 with
      | none => none
      | some e => bif (!e) then some false else bif (r.1.1.2.1 != u.2.2) then some false else Mm N KK l z4 z5 (uu r.2.1) c1 (u.1) c1 := by kernel_rfl
theorem s011 {N : Nat} (hN : 3 ≤ N) (KK : K73) (l : List El) (z4 z5 : Int) {c0 c1 : Cc} (h0 : okC c0) (h1 : okC c1) (k : Int) (sec bo : Bool) (w o n : Int) {b : List Int} (hb : b.length ≤ 70000) : ∃ c0' c1', okC c0' ∧ okC c1' ∧ S73_011 f84 h86 f93 f108 f23 h88 f94 h87 f95 h92s f112 h97 h92 h86 h88 h87 h92s h97 h92 N KK 2 2 l z4 z5 c0.1 c0.2.1 c0.2.2.1 c0.2.2.2.1 c0.2.2.2.2.1 c0.2.2.2.2.2.1 c0.2.2.2.2.2.2.1 c0.2.2.2.2.2.2.2.1 c0.2.2.2.2.2.2.2.2 c1.1 c1.2.1 c1.2.2.1 c1.2.2.2.1 c1.2.2.2.2.1 c1.2.2.2.2.2.1 c1.2.2.2.2.2.2.1 c1.2.2.2.2.2.2.2.1 c1.2.2.2.2.2.2.2.2 c0.1 c0.2.1 c0.2.2.1 c0.2.2.2.1 c0.2.2.2.2.1 c0.2.2.2.2.2.1 c0.2.2.2.2.2.2.1 c0.2.2.2.2.2.2.2.1 c0.2.2.2.2.2.2.2.2 c1.1 c1.2.1 c1.2.2.1 c1.2.2.2.1 c1.2.2.2.2.1 c1.2.2.2.2.2.1 c1.2.2.2.2.2.2.1 c1.2.2.2.2.2.2.2.1 c1.2.2.2.2.2.2.2.2 (k, (sec, (bo, (w, (o, (n, b)))))) = kk KK l z4 z5 c0' c1' c0' c1' := by
  refine ⟨(sTake c0 w n).1, c1, sTake_ok h0, h1, ?_⟩
  rw [s011_eq, h88_is h0, f94_is h0]
  simp only []
  rw [f23_same (sTake_lt h0)]
  simp only [Bool.not_true, bne_self_eq_false, cond_false]
  exact Mm_is hN KK l z4 z5 (sTake_ok h0) h1
theorem s012_eq (N : Nat) (KK : K73) (l : List El) (z4 z5 : Int) (c0 c1 : Cc) (k : Int) (sec bo : Bool) (w o n : Int) (b : List Int) : S73_012 f84 h86 f93 f108 f23 h88 f94 h87 f95 h92s f112 h97 h92 h86 h88 h87 h92s h97 h92 N KK 2 2 l z4 z5 c0.1 c0.2.1 c0.2.2.1 c0.2.2.2.1 c0.2.2.2.2.1 c0.2.2.2.2.2.1 c0.2.2.2.2.2.2.1 c0.2.2.2.2.2.2.2.1 c0.2.2.2.2.2.2.2.2 c1.1 c1.2.1 c1.2.2.1 c1.2.2.2.1 c1.2.2.2.2.1 c1.2.2.2.2.2.1 c1.2.2.2.2.2.2.1 c1.2.2.2.2.2.2.2.1 c1.2.2.2.2.2.2.2.2 c0.1 c0.2.1 c0.2.2.1 c0.2.2.2.1 c0.2.2.2.2.1 c0.2.2.2.2.2.1 c0.2.2.2.2.2.2.1 c0.2.2.2.2.2.2.2.1 c0.2.2.2.2.2.2.2.2 c1.1 c1.2.1 c1.2.2.1 c1.2.2.2.1 c1.2.2.2.2.1 c1.2.2.2.2.2.1 c1.2.2.2.2.2.2.1 c1.2.2.2.2.2.2.2.1 c1.2.2.2.2.2.2.2.2 (k, (sec, (bo, (w, (o, (n, b)))))) = match h87 w n c0.1 c0.2.1 c0.2.2.1 c0.2.2.2.1 c0.2.2.2.2.1 c0.2.2.2.2.2.1 c0.2.2.2.2.2.2.1 c0.2.2.2.2.2.2.2.1 c0.2.2.2.2.2.2.2.2 with
  | none => none
  | some r => match f95 (c0.1, (c0.2.1, (c0.2.2.1, (c0.2.2.2.1, (c0.2.2.2.2.1, (c0.2.2.2.2.2.1, (c0.2.2.2.2.2.2.1, (c0.2.2.2.2.2.2.2.1, (c0.2.2.2.2.2.2.2.2))))))))) w n with
    | none => none
    | some u => bif (r.1.1.1 != u.2.1) then some false else bif (r.1.1.2.1 != u.2.2) then some false else Mm N KK l z4 z5 (uu r.2.1) c1 (u.1) c1 := by kernel_rfl
theorem s012 {N : Nat} (hN : 3 ≤ N) (KK : K73) (l : List El) (z4 z5 : Int) {c0 c1 : Cc} (h0 : okC c0) (h1 : okC c1) (k : Int) (sec bo : Bool) (w o n : Int) {b : List Int} (hb : b.length ≤ 70000) : ∃ c0' c1', okC c0' ∧ okC c1' ∧ S73_012 f84 h86 f93 f108 f23 h88 f94 h87 f95 h92s f112 h97 h92 h86 h88 h87 h92s h97 h92 N KK 2 2 l z4 z5 c0.1 c0.2.1 c0.2.2.1 c0.2.2.2.1 c0.2.2.2.2.1 c0.2.2.2.2.2.1 c0.2.2.2.2.2.2.1 c0.2.2.2.2.2.2.2.1 c0.2.2.2.2.2.2.2.2 c1.1 c1.2.1 c1.2.2.1 c1.2.2.2.1 c1.2.2.2.2.1 c1.2.2.2.2.2.1 c1.2.2.2.2.2.2.1 c1.2.2.2.2.2.2.2.1 c1.2.2.2.2.2.2.2.2 c0.1 c0.2.1 c0.2.2.1 c0.2.2.2.1 c0.2.2.2.2.1 c0.2.2.2.2.2.1 c0.2.2.2.2.2.2.1 c0.2.2.2.2.2.2.2.1 c0.2.2.2.2.2.2.2.2 c1.1 c1.2.1 c1.2.2.1 c1.2.2.2.1 c1.2.2.2.2.1 c1.2.2.2.2.2.1 c1.2.2.2.2.2.2.1 c1.2.2.2.2.2.2.2.1 c1.2.2.2.2.2.2.2.2 (k, (sec, (bo, (w, (o, (n, b)))))) = kk KK l z4 z5 c0' c1' c0' c1' := by
  refine ⟨(sLose c0 w n).1, c1, sLose_ok h0, h1, ?_⟩
  rw [s012_eq, h87_is h0, f95_is h0]
  simp only [bne_self_eq_false, cond_false]
  exact Mm_is hN KK l z4 z5 (sLose_ok h0) h1
theorem s014 {N : Nat} (hN : 3 ≤ N) (KK : K73) (l : List El) (z4 z5 : Int) {c0 c1 : Cc} (h0 : okC c0) (h1 : okC c1) (k : Int) (sec bo : Bool) (w o n : Int) {b : List Int} (hb : b.length ≤ 70000) : ∃ c0' c1', okC c0' ∧ okC c1' ∧ S73_014 f84 h86 f93 f108 f23 h88 f94 h87 f95 h92s f112 h97 h92 h86 h88 h87 h92s h97 h92 N KK 2 2 l z4 z5 c0.1 c0.2.1 c0.2.2.1 c0.2.2.2.1 c0.2.2.2.2.1 c0.2.2.2.2.2.1 c0.2.2.2.2.2.2.1 c0.2.2.2.2.2.2.2.1 c0.2.2.2.2.2.2.2.2 c1.1 c1.2.1 c1.2.2.1 c1.2.2.2.1 c1.2.2.2.2.1 c1.2.2.2.2.2.1 c1.2.2.2.2.2.2.1 c1.2.2.2.2.2.2.2.1 c1.2.2.2.2.2.2.2.2 c0.1 c0.2.1 c0.2.2.1 c0.2.2.2.1 c0.2.2.2.2.1 c0.2.2.2.2.2.1 c0.2.2.2.2.2.2.1 c0.2.2.2.2.2.2.2.1 c0.2.2.2.2.2.2.2.2 c1.1 c1.2.1 c1.2.2.1 c1.2.2.2.1 c1.2.2.2.2.1 c1.2.2.2.2.2.1 c1.2.2.2.2.2.2.1 c1.2.2.2.2.2.2.2.1 c1.2.2.2.2.2.2.2.2 (k, (sec, (bo, (w, (o, (n, b)))))) = kk KK l z4 z5 c0' c1' c0' c1' := by
  refine ⟨(c0.1, (c0.2.1, (c0.2.2.1, (c0.2.2.2.1, (c0.2.2.2.2.1, (c0.2.2.2.2.2.1, (c0.2.2.2.2.2.2.1, (c0.2.2.2.2.2.2.2.1, true)))))))), c1, h0, h1, ?_⟩
  have e : S73_014 f84 h86 f93 f108 f23 h88 f94 h87 f95 h92s f112 h97 h92 h86 h88 h87 h92s h97 h92 N KK 2 2 l z4 z5 c0.1 c0.2.1 c0.2.2.1 c0.2.2.2.1 c0.2.2.2.2.1 c0.2.2.2.2.2.1 c0.2.2.2.2.2.2.1 c0.2.2.2.2.2.2.2.1 c0.2.2.2.2.2.2.2.2 c1.1 c1.2.1 c1.2.2.1 c1.2.2.2.1 c1.2.2.2.2.1 c1.2.2.2.2.2.1 c1.2.2.2.2.2.2.1 c1.2.2.2.2.2.2.2.1 c1.2.2.2.2.2.2.2.2 c0.1 c0.2.1 c0.2.2.1 c0.2.2.2.1 c0.2.2.2.2.1 c0.2.2.2.2.2.1 c0.2.2.2.2.2.2.1 c0.2.2.2.2.2.2.2.1 c0.2.2.2.2.2.2.2.2 c1.1 c1.2.1 c1.2.2.1 c1.2.2.2.1 c1.2.2.2.2.1 c1.2.2.2.2.2.1 c1.2.2.2.2.2.2.1 c1.2.2.2.2.2.2.2.1 c1.2.2.2.2.2.2.2.2 (k, (sec, (bo, (w, (o, (n, b)))))) = Mm N KK l z4 z5 ((c0.1, (c0.2.1, (c0.2.2.1, (c0.2.2.2.1, (c0.2.2.2.2.1, (c0.2.2.2.2.2.1, (c0.2.2.2.2.2.2.1, (c0.2.2.2.2.2.2.2.1, true))))))))) c1 ((c0.1, (c0.2.1, (c0.2.2.1, (c0.2.2.2.1, (c0.2.2.2.2.1, (c0.2.2.2.2.2.1, (c0.2.2.2.2.2.2.1, (c0.2.2.2.2.2.2.2.1, true))))))))) c1 := by kernel_rfl
  rw [e]
  exact Mm_is hN KK l z4 z5 (show okC (c0.1, (c0.2.1, (c0.2.2.1, (c0.2.2.2.1, (c0.2.2.2.2.1, (c0.2.2.2.2.2.1, (c0.2.2.2.2.2.2.1, (c0.2.2.2.2.2.2.2.1, true)))))))) from h0) h1
theorem s013_00 (N : Nat) (KK : K73) (l : List El) (z4 z5 : Int) (c0 c1 : Cc) (k : Int) (sec bo : Bool) (n : Int) (b : List Int) : S73_013 f84 h86 f93 f108 f23 h88 f94 h87 f95 h92s f112 h97 h92 h86 h88 h87 h92s h97 h92 N KK 2 2 l z4 z5 c0.1 c0.2.1 c0.2.2.1 c0.2.2.2.1 c0.2.2.2.2.1 c0.2.2.2.2.2.1 c0.2.2.2.2.2.2.1 c0.2.2.2.2.2.2.2.1 c0.2.2.2.2.2.2.2.2 c1.1 c1.2.1 c1.2.2.1 c1.2.2.2.1 c1.2.2.2.2.1 c1.2.2.2.2.2.1 c1.2.2.2.2.2.2.1 c1.2.2.2.2.2.2.2.1 c1.2.2.2.2.2.2.2.2 c0.1 c0.2.1 c0.2.2.1 c0.2.2.2.1 c0.2.2.2.2.1 c0.2.2.2.2.2.1 c0.2.2.2.2.2.2.1 c0.2.2.2.2.2.2.2.1 c0.2.2.2.2.2.2.2.2 c1.1 c1.2.1 c1.2.2.1 c1.2.2.2.1 c1.2.2.2.2.1 c1.2.2.2.2.2.1 c1.2.2.2.2.2.2.1 c1.2.2.2.2.2.2.2.1 c1.2.2.2.2.2.2.2.2 (k, (sec, (bo, (0, (0, (n, b)))))) = match h92s 0 0 n c0.1 c0.2.1 c0.2.2.1 c0.2.2.2.1 c0.2.2.2.2.1 c0.2.2.2.2.2.1 c0.2.2.2.2.2.2.1 c0.2.2.2.2.2.2.2.1 c0.2.2.2.2.2.2.2.2 with
  | none => none
  | some r => bif decide (n < 0) then chk r.1 0 1 (Mm N KK l z4 z5 (uu r.2.1) c1 (c0) c1) else chk r.1 0 1 (Mm N KK l z4 z5 (uu r.2.1) c1 (c0) c1) := by kernel_rfl
theorem s013_01 (N : Nat) (KK : K73) (l : List El) (z4 z5 : Int) (c0 c1 : Cc) (k : Int) (sec bo : Bool) (n : Int) (b : List Int) : S73_013 f84 h86 f93 f108 f23 h88 f94 h87 f95 h92s f112 h97 h92 h86 h88 h87 h92s h97 h92 N KK 2 2 l z4 z5 c0.1 c0.2.1 c0.2.2.1 c0.2.2.2.1 c0.2.2.2.2.1 c0.2.2.2.2.2.1 c0.2.2.2.2.2.2.1 c0.2.2.2.2.2.2.2.1 c0.2.2.2.2.2.2.2.2 c1.1 c1.2.1 c1.2.2.1 c1.2.2.2.1 c1.2.2.2.2.1 c1.2.2.2.2.2.1 c1.2.2.2.2.2.2.1 c1.2.2.2.2.2.2.2.1 c1.2.2.2.2.2.2.2.2 c0.1 c0.2.1 c0.2.2.1 c0.2.2.2.1 c0.2.2.2.2.1 c0.2.2.2.2.2.1 c0.2.2.2.2.2.2.1 c0.2.2.2.2.2.2.2.1 c0.2.2.2.2.2.2.2.2 c1.1 c1.2.1 c1.2.2.1 c1.2.2.2.1 c1.2.2.2.2.1 c1.2.2.2.2.2.1 c1.2.2.2.2.2.2.1 c1.2.2.2.2.2.2.2.1 c1.2.2.2.2.2.2.2.2 (k, (sec, (bo, (0, (1, (n, b)))))) = match h92s 0 1 n c0.1 c0.2.1 c0.2.2.1 c0.2.2.2.1 c0.2.2.2.2.1 c0.2.2.2.2.2.1 c0.2.2.2.2.2.2.1 c0.2.2.2.2.2.2.2.1 c0.2.2.2.2.2.2.2.2 with
  | none => none
  | some r => bif decide (n < 0) then chk r.1 0 1 (Mm N KK l z4 z5 (uu r.2.1) c1 (c0) c1) else bif c0.2.2.2.2.2.2.2.2 then chk r.1 0 11 (Mm N KK l z4 z5 (uu r.2.1) c1 (c0) c1) else bif decide (iadd .i64 ((c0.2.2.2.2.1.length : Nat) : Int) (if ((c0.1.length : Nat) : Int) < n then ((c0.1.length : Nat) : Int) else n) > 65536) then chk r.1 0 12 (Mm N KK l z4 z5 (uu r.2.1) c1 (c0) c1) else match f94 (c0.1, (c0.2.1, (c0.2.2.1, (c0.2.2.2.1, (c0.2.2.2.2.1, (c0.2.2.2.2.2.1, (c0.2.2.2.2.2.2.1, (c0.2.2.2.2.2.2.2.1, (c0.2.2.2.2.2.2.2.2))))))))) 0 n with
    | none => none
    | some t => match f93 (t.1.1, (t.1.2.1, (t.1.2.2.1, (t.1.2.2.2.1, (t.1.2.2.2.2.1, (t.1.2.2.2.2.2.1, (t.1.2.2.2.2.2.2.1, (t.1.2.2.2.2.2.2.2.1, (t.1.2.2.2.2.2.2.2.2))))))))) 1 t.2.1 with
      | none => none
      | some v => chk r.1 ((t.2.1.length : Nat) : Int) 0 (Mm N KK l z4 z5 (uu r.2.1) c1 (v.1) c1) := by kernel_rfl
theorem s013_10 (N : Nat) (KK : K73) (l : List El) (z4 z5 : Int) (c0 c1 : Cc) (k : Int) (sec bo : Bool) (n : Int) (b : List Int) : S73_013 f84 h86 f93 f108 f23 h88 f94 h87 f95 h92s f112 h97 h92 h86 h88 h87 h92s h97 h92 N KK 2 2 l z4 z5 c0.1 c0.2.1 c0.2.2.1 c0.2.2.2.1 c0.2.2.2.2.1 c0.2.2.2.2.2.1 c0.2.2.2.2.2.2.1 c0.2.2.2.2.2.2.2.1 c0.2.2.2.2.2.2.2.2 c1.1 c1.2.1 c1.2.2.1 c1.2.2.2.1 c1.2.2.2.2.1 c1.2.2.2.2.2.1 c1.2.2.2.2.2.2.1 c1.2.2.2.2.2.2.2.1 c1.2.2.2.2.2.2.2.2 c0.1 c0.2.1 c0.2.2.1 c0.2.2.2.1 c0.2.2.2.2.1 c0.2.2.2.2.2.1 c0.2.2.2.2.2.2.1 c0.2.2.2.2.2.2.2.1 c0.2.2.2.2.2.2.2.2 c1.1 c1.2.1 c1.2.2.1 c1.2.2.2.1 c1.2.2.2.2.1 c1.2.2.2.2.2.1 c1.2.2.2.2.2.2.1 c1.2.2.2.2.2.2.2.1 c1.2.2.2.2.2.2.2.2 (k, (sec, (bo, (1, (0, (n, b)))))) = match h92s 1 0 n c0.1 c0.2.1 c0.2.2.1 c0.2.2.2.1 c0.2.2.2.2.1 c0.2.2.2.2.2.1 c0.2.2.2.2.2.2.1 c0.2.2.2.2.2.2.2.1 c0.2.2.2.2.2.2.2.2 with
  | none => none
  | some r => bif decide (n < 0) then chk r.1 0 1 (Mm N KK l z4 z5 (uu r.2.1) c1 (c0) c1) else bif c0.2.2.2.2.2.2.2.2 then chk r.1 0 11 (Mm N KK l z4 z5 (uu r.2.1) c1 (c0) c1) else bif decide (iadd .i64 ((c0.1.length : Nat) : Int) (if ((c0.2.2.2.2.1.length : Nat) : Int) < n then ((c0.2.2.2.2.1.length : Nat) : Int) else n) > 65536) then chk r.1 0 12 (Mm N KK l z4 z5 (uu r.2.1) c1 (c0) c1) else match f94 (c0.1, (c0.2.1, (c0.2.2.1, (c0.2.2.2.1, (c0.2.2.2.2.1, (c0.2.2.2.2.2.1, (c0.2.2.2.2.2.2.1, (c0.2.2.2.2.2.2.2.1, (c0.2.2.2.2.2.2.2.2))))))))) 1 n with
    | none => none
    | some t => match f93 (t.1.1, (t.1.2.1, (t.1.2.2.1, (t.1.2.2.2.1, (t.1.2.2.2.2.1, (t.1.2.2.2.2.2.1, (t.1.2.2.2.2.2.2.1, (t.1.2.2.2.2.2.2.2.1, (t.1.2.2.2.2.2.2.2.2))))))))) 0 t.2.1 with
      | none => none
      | some v => chk r.1 ((t.2.1.length : Nat) : Int) 0 (Mm N KK l z4 z5 (uu r.2.1) c1 (v.1) c1) := by kernel_rfl
theorem s013_11 (N : Nat) (KK : K73) (l : List El) (z4 z5 : Int) (c0 c1 : Cc) (k : Int) (sec bo : Bool) (n : Int) (b : List Int) : S73_013 f84 h86 f93 f108 f23 h88 f94 h87 f95 h92s f112 h97 h92 h86 h88 h87 h92s h97 h92 N KK 2 2 l z4 z5 c0.1 c0.2.1 c0.2.2.1 c0.2.2.2.1 c0.2.2.2.2.1 c0.2.2.2.2.2.1 c0.2.2.2.2.2.2.1 c0.2.2.2.2.2.2.2.1 c0.2.2.2.2.2.2.2.2 c1.1 c1.2.1 c1.2.2.1 c1.2.2.2.1 c1.2.2.2.2.1 c1.2.2.2.2.2.1 c1.2.2.2.2.2.2.1 c1.2.2.2.2.2.2.2.1 c1.2.2.2.2.2.2.2.2 c0.1 c0.2.1 c0.2.2.1 c0.2.2.2.1 c0.2.2.2.2.1 c0.2.2.2.2.2.1 c0.2.2.2.2.2.2.1 c0.2.2.2.2.2.2.2.1 c0.2.2.2.2.2.2.2.2 c1.1 c1.2.1 c1.2.2.1 c1.2.2.2.1 c1.2.2.2.2.1 c1.2.2.2.2.2.1 c1.2.2.2.2.2.2.1 c1.2.2.2.2.2.2.2.1 c1.2.2.2.2.2.2.2.2 (k, (sec, (bo, (1, (1, (n, b)))))) = match h92s 1 1 n c0.1 c0.2.1 c0.2.2.1 c0.2.2.2.1 c0.2.2.2.2.1 c0.2.2.2.2.2.1 c0.2.2.2.2.2.2.1 c0.2.2.2.2.2.2.2.1 c0.2.2.2.2.2.2.2.2 with
  | none => none
  | some r => bif decide (n < 0) then chk r.1 0 1 (Mm N KK l z4 z5 (uu r.2.1) c1 (c0) c1) else chk r.1 0 1 (Mm N KK l z4 z5 (uu r.2.1) c1 (c0) c1) := by kernel_rfl
theorem s013 {N : Nat} (hN : 3 ≤ N) (KK : K73) (l : List El) (z4 z5 : Int) {c0 c1 : Cc} (h0 : okC c0) (h1 : okC c1) (k : Int) (sec bo : Bool) (w o n : Int) {b : List Int} (hb : b.length ≤ 70000) : ∃ c0' c1', okC c0' ∧ okC c1' ∧ S73_013 f84 h86 f93 f108 f23 h88 f94 h87 f95 h92s f112 h97 h92 h86 h88 h87 h92s h97 h92 N KK 2 2 l z4 z5 c0.1 c0.2.1 c0.2.2.1 c0.2.2.2.1 c0.2.2.2.2.1 c0.2.2.2.2.2.1 c0.2.2.2.2.2.2.1 c0.2.2.2.2.2.2.2.1 c0.2.2.2.2.2.2.2.2 c1.1 c1.2.1 c1.2.2.1 c1.2.2.2.1 c1.2.2.2.2.1 c1.2.2.2.2.2.1 c1.2.2.2.2.2.2.1 c1.2.2.2.2.2.2.2.1 c1.2.2.2.2.2.2.2.2 c0.1 c0.2.1 c0.2.2.1 c0.2.2.2.1 c0.2.2.2.2.1 c0.2.2.2.2.2.1 c0.2.2.2.2.2.2.1 c0.2.2.2.2.2.2.2.1 c0.2.2.2.2.2.2.2.2 c1.1 c1.2.1 c1.2.2.1 c1.2.2.2.1 c1.2.2.2.2.1 c1.2.2.2.2.2.1 c1.2.2.2.2.2.2.1 c1.2.2.2.2.2.2.2.1 c1.2.2.2.2.2.2.2.2 (k, (sec, (bo, (w, (o, (n, b)))))) = kk KK l z4 z5 c0' c1' c0' c1' := by
  refine ⟨(sRel1 c0 w o n).1, c1, sRel1_ok h0, h1, ?_⟩
  rw [← Mm_is hN KK l z4 z5 (sRel1_ok h0) h1]
  by_cases hw : w = 0 ∨ w = 1
  · by_cases ho : o = 0 ∨ o = 1
    · rcases hw with rfl | rfl <;> rcases ho with rfl | rfl
      · rw [s013_00, h92s_is h0]
        unfold sRel1
        rw [if_neg (by decide), if_neg (by decide)]
        by_cases hn : n < 0
        · rw [if_pos hn, decide_eq_true hn]
          simp only [cond_true]
          exact chk_is
        · rw [if_neg hn, decide_eq_false hn]
          rw [if_pos rfl]
          simp only [cond_false]
          exact chk_is
      · rw [s013_01, h92s_is h0]
        unfold sRel1
        rw [if_neg (by decide), if_neg (by decide)]
        by_cases hn : n < 0
        · rw [if_pos hn, decide_eq_true hn]
          simp only [cond_true]
          exact chk_is
        · rw [if_neg hn, decide_eq_false hn]
          rw [if_neg (by decide)]
          have e : (if (((wb c0 0).length : Nat) : Int) < n then (((wb c0 0).length : Nat) : Int) else n) = ((cutN (wb c0 0) n : Nat) : Int) := mnI_is hn
          have hl := cutN_le (wb c0 0) n
          have hw := wb_le (w := 0) h0
          have hq := wb_le (w := 1) h0
          by_cases hs : c0.2.2.2.2.2.2.2.2 = true
          · rw [if_pos hs]
            simp only [cond_false]
            rw [bif_t hs]
            exact chk_is
          · rw [if_neg hs]
            simp only [cond_false]
            rw [bif_f (Bool.eq_false_iff.2 hs), show (if (((c0.1).length : Nat) : Int) < n then (((c0.1).length : Nat) : Int) else n) = ((cutN (wb c0 0) n : Nat) : Int) from e, show iadd .i64 (((c0.2.2.2.2.1).length : Nat) : Int) ((cutN (wb c0 0) n : Nat) : Int) = (((wb c0 1).length + cutN (wb c0 0) n : Nat) : Int) from addL hq (by omega)]
            by_cases hf : 65536 < (wb c0 1).length + cutN (wb c0 0) n
            · rw [if_pos hf, decide_eq_true (by omega), cond_true]
              exact chk_is
            · rw [if_neg hf, decide_eq_false (by omega), cond_false, f94_is h0]
              simp only []
              rw [f93_is (sTake_ok h0) (by rw [sTake_len (by omega) hn]; omega)]
              exact chk_is
      · rw [s013_10, h92s_is h0]
        unfold sRel1
        rw [if_neg (by decide), if_neg (by decide)]
        by_cases hn : n < 0
        · rw [if_pos hn, decide_eq_true hn]
          simp only [cond_true]
          exact chk_is
        · rw [if_neg hn, decide_eq_false hn]
          rw [if_neg (by decide)]
          have e : (if (((wb c0 1).length : Nat) : Int) < n then (((wb c0 1).length : Nat) : Int) else n) = ((cutN (wb c0 1) n : Nat) : Int) := mnI_is hn
          have hl := cutN_le (wb c0 1) n
          have hw := wb_le (w := 1) h0
          have hq := wb_le (w := 0) h0
          by_cases hs : c0.2.2.2.2.2.2.2.2 = true
          · rw [if_pos hs]
            simp only [cond_false]
            rw [bif_t hs]
            exact chk_is
          · rw [if_neg hs]
            simp only [cond_false]
            rw [bif_f (Bool.eq_false_iff.2 hs), show (if (((c0.2.2.2.2.1).length : Nat) : Int) < n then (((c0.2.2.2.2.1).length : Nat) : Int) else n) = ((cutN (wb c0 1) n : Nat) : Int) from e, show iadd .i64 (((c0.1).length : Nat) : Int) ((cutN (wb c0 1) n : Nat) : Int) = (((wb c0 0).length + cutN (wb c0 1) n : Nat) : Int) from addL hq (by omega)]
            by_cases hf : 65536 < (wb c0 0).length + cutN (wb c0 1) n
            · rw [if_pos hf, decide_eq_true (by omega), cond_true]
              exact chk_is
            · rw [if_neg hf, decide_eq_false (by omega), cond_false, f94_is h0]
              simp only []
              rw [f93_is (sTake_ok h0) (by rw [sTake_len (by omega) hn]; omega)]
              exact chk_is
      · rw [s013_11, h92s_is h0]
        unfold sRel1
        rw [if_neg (by decide), if_neg (by decide)]
        by_cases hn : n < 0
        · rw [if_pos hn, decide_eq_true hn]
          simp only [cond_true]
          exact chk_is
        · rw [if_neg hn, decide_eq_false hn]
          rw [if_pos rfl]
          simp only [cond_false]
          exact chk_is
    · have e : f112 w = some true := by rcases hw with rfl | rfl <;> rfl
      unfold S73_013
      rw [h92s_is h0, e, f112_no (w := o) (by omega) (by omega)]
      unfold sRel1
      rw [if_neg (fun h => h hw), if_pos ho]
      exact chk_is (a := 0) (e := 1) (k := Mm N KK l z4 z5 c0 c1 c0 c1)
  · unfold S73_013
    rw [h92s_is h0, f112_no (w := w) (by omega) (by omega)]
    unfold sRel1
    rw [if_pos hw]
    exact chk_is (a := 0) (e := 1) (k := Mm N KK l z4 z5 c0 c1 c0 c1)
theorem s000_eq (N : Nat) (KK : K73) (l : List El) (z4 z5 : Int) (c0 c1 : Cc) (k : Int) (sec bo : Bool) (w o n : Int) (b : List Int) : S73_000 f84 h86 f93 f108 f23 h88 f94 h87 f95 h92s f112 h97 h92 h86 h88 h87 h92s h97 h92 N KK 2 2 l z4 z5 c0.1 c0.2.1 c0.2.2.1 c0.2.2.2.1 c0.2.2.2.2.1 c0.2.2.2.2.2.1 c0.2.2.2.2.2.2.1 c0.2.2.2.2.2.2.2.1 c0.2.2.2.2.2.2.2.2 c1.1 c1.2.1 c1.2.2.1 c1.2.2.2.1 c1.2.2.2.2.1 c1.2.2.2.2.2.1 c1.2.2.2.2.2.2.1 c1.2.2.2.2.2.2.2.1 c1.2.2.2.2.2.2.2.2 c0.1 c0.2.1 c0.2.2.1 c0.2.2.2.1 c0.2.2.2.2.1 c0.2.2.2.2.2.1 c0.2.2.2.2.2.2.1 c0.2.2.2.2.2.2.2.1 c0.2.2.2.2.2.2.2.2 c1.1 c1.2.1 c1.2.2.1 c1.2.2.2.1 c1.2.2.2.2.1 c1.2.2.2.2.2.1 c1.2.2.2.2.2.2.1 c1.2.2.2.2.2.2.2.1 c1.2.2.2.2.2.2.2.2 (k, (sec, (bo, (w, (o, (n, b)))))) = match h86 w b c0.1 c0.2.1 c0.2.2.1 c0.2.2.2.1 c0.2.2.2.2.1 c0.2.2.2.2.2.1 c0.2.2.2.2.2.2.1 c0.2.2.2.2.2.2.2.1 c0.2.2.2.2.2.2.2.2 with
  | none => none
  | some r => match f93 (c0.1, (c0.2.1, (c0.2.2.1, (c0.2.2.2.1, (c0.2.2.2.2.1, (c0.2.2.2.2.2.1, (c0.2.2.2.2.2.2.1, (c0.2.2.2.2.2.2.2.1, (c0.2.2.2.2.2.2.2.2))))))))) w b with
    | none => none
    | some u => bif (r.1.1 != u.2) then some false else Mm N KK l z4 z5 (uu r.2.1) c1 (u.1) c1 := by kernel_rfl
theorem s000 {N : Nat} (hN : 3 ≤ N) (KK : K73) (l : List El) (z4 z5 : Int) {c0 c1 : Cc} (h0 : okC c0) (h1 : okC c1) (k : Int) (sec bo : Bool) (w o n : Int) {b : List Int} (hb : b.length ≤ 70000) : ∃ c0' c1', okC c0' ∧ okC c1' ∧ S73_000 f84 h86 f93 f108 f23 h88 f94 h87 f95 h92s f112 h97 h92 h86 h88 h87 h92s h97 h92 N KK 2 2 l z4 z5 c0.1 c0.2.1 c0.2.2.1 c0.2.2.2.1 c0.2.2.2.2.1 c0.2.2.2.2.2.1 c0.2.2.2.2.2.2.1 c0.2.2.2.2.2.2.2.1 c0.2.2.2.2.2.2.2.2 c1.1 c1.2.1 c1.2.2.1 c1.2.2.2.1 c1.2.2.2.2.1 c1.2.2.2.2.2.1 c1.2.2.2.2.2.2.1 c1.2.2.2.2.2.2.2.1 c1.2.2.2.2.2.2.2.2 c0.1 c0.2.1 c0.2.2.1 c0.2.2.2.1 c0.2.2.2.2.1 c0.2.2.2.2.2.1 c0.2.2.2.2.2.2.1 c0.2.2.2.2.2.2.2.1 c0.2.2.2.2.2.2.2.2 c1.1 c1.2.1 c1.2.2.1 c1.2.2.2.1 c1.2.2.2.2.1 c1.2.2.2.2.2.1 c1.2.2.2.2.2.2.1 c1.2.2.2.2.2.2.2.1 c1.2.2.2.2.2.2.2.2 (k, (sec, (bo, (w, (o, (n, b)))))) = kk KK l z4 z5 c0' c1' c0' c1' := by
  refine ⟨(sPut c0 w b).1, c1, sPut_ok h0, h1, ?_⟩
  rw [s000_eq, h86_is h0 hb, f93_is h0 hb]
  simp only [bne_self_eq_false, cond_false]
  exact Mm_is hN KK l z4 z5 (sPut_ok h0) h1
theorem s001_eq (N : Nat) (KK : K73) (l : List El) (z4 z5 : Int) (c0 c1 : Cc) (k : Int) (sec bo : Bool) (w o n : Int) (b : List Int) : S73_001 f84 h86 f93 f108 f23 h88 f94 h87 f95 h92s f112 h97 h92 h86 h88 h87 h92s h97 h92 N KK 2 2 l z4 z5 c0.1 c0.2.1 c0.2.2.1 c0.2.2.2.1 c0.2.2.2.2.1 c0.2.2.2.2.2.1 c0.2.2.2.2.2.2.1 c0.2.2.2.2.2.2.2.1 c0.2.2.2.2.2.2.2.2 c1.1 c1.2.1 c1.2.2.1 c1.2.2.2.1 c1.2.2.2.2.1 c1.2.2.2.2.2.1 c1.2.2.2.2.2.2.1 c1.2.2.2.2.2.2.2.1 c1.2.2.2.2.2.2.2.2 c0.1 c0.2.1 c0.2.2.1 c0.2.2.2.1 c0.2.2.2.2.1 c0.2.2.2.2.2.1 c0.2.2.2.2.2.2.1 c0.2.2.2.2.2.2.2.1 c0.2.2.2.2.2.2.2.2 c1.1 c1.2.1 c1.2.2.1 c1.2.2.2.1 c1.2.2.2.2.1 c1.2.2.2.2.2.1 c1.2.2.2.2.2.2.1 c1.2.2.2.2.2.2.2.1 c1.2.2.2.2.2.2.2.2 (k, (sec, (bo, (w, (o, (n, b)))))) = match h88 w n c0.1 c0.2.1 c0.2.2.1 c0.2.2.2.1 c0.2.2.2.2.1 c0.2.2.2.2.2.1 c0.2.2.2.2.2.2.1 c0.2.2.2.2.2.2.2.1 c0.2.2.2.2.2.2.2.2 with
  | none => none
  | some r => match f94 (c0.1, (c0.2.1, (c0.2.2.1, (c0.2.2.2.1, (c0.2.2.2.2.1, (c0.2.2.2.2.2.1, (c0.2.2.2.2.2.2.1, (c0.2.2.2.2.2.2.2.1, (c0.2.2.2.2.2.2.2.2))))))))) w n with
    | none => none
    | some u => match f23 r.1.1.1 u.2.1 with
      | none => none
      | some e => bif (!e) then some false else bif (r.1.1.2.1 != u.2.2) then some false else Mm N KK l z4 z5 (uu r.2.1) c1 (u.1) c1 := by kernel_rfl
theorem s001 {N : Nat} (hN : 3 ≤ N) (KK : K73) (l : List El) (z4 z5 : Int) {c0 c1 : Cc} (h0 : okC c0) (h1 : okC c1) (k : Int) (sec bo : Bool) (w o n : Int) {b : List Int} (hb : b.length ≤ 70000) : ∃ c0' c1', okC c0' ∧ okC c1' ∧ S73_001 f84 h86 f93 f108 f23 h88 f94 h87 f95 h92s f112 h97 h92 h86 h88 h87 h92s h97 h92 N KK 2 2 l z4 z5 c0.1 c0.2.1 c0.2.2.1 c0.2.2.2.1 c0.2.2.2.2.1 c0.2.2.2.2.2.1 c0.2.2.2.2.2.2.1 c0.2.2.2.2.2.2.2.1 c0.2.2.2.2.2.2.2.2 c1.1 c1.2.1 c1.2.2.1 c1.2.2.2.1 c1.2.2.2.2.1 c1.2.2.2.2.2.1 c1.2.2.2.2.2.2.1 c1.2.2.2.2.2.2.2.1 c1.2.2.2.2.2.2.2.2 c0.1 c0.2.1 c0.2.2.1 c0.2.2.2.1 c0.2.2.2.2.1 c0.2.2.2.2.2.1 c0.2.2.2.2.2.2.1 c0.2.2.2.2.2.2.2.1 c0.2.2.2.2.2.2.2.2 c1.1 c1.2.1 c1.2.2.1 c1.2.2.2.1 c1.2.2.2.2.1 c1.2.2.2.2.2.1 c1.2.2.2.2.2.2.1 c1.2.2.2.2.2.2.2.1 c1.2.2.2.2.2.2.2.2 (k, (sec, (bo, (w, (o, (n, b)))))) = kk KK l z4 z5 c0' c1' c0' c1' := by
  refine ⟨(sTake c0 w n).1, c1, sTake_ok h0, h1, ?_⟩
  rw [s001_eq, h88_is h0, f94_is h0]
  simp only []
  rw [f23_same (sTake_lt h0)]
  simp only [Bool.not_true, bne_self_eq_false, cond_false]
  exact Mm_is hN KK l z4 z5 (sTake_ok h0) h1
theorem s002_eq (N : Nat) (KK : K73) (l : List El) (z4 z5 : Int) (c0 c1 : Cc) (k : Int) (sec bo : Bool) (w o n : Int) (b : List Int) : S73_002 f84 h86 f93 f108 f23 h88 f94 h87 f95 h92s f112 h97 h92 h86 h88 h87 h92s h97 h92 N KK 2 2 l z4 z5 c0.1 c0.2.1 c0.2.2.1 c0.2.2.2.1 c0.2.2.2.2.1 c0.2.2.2.2.2.1 c0.2.2.2.2.2.2.1 c0.2.2.2.2.2.2.2.1 c0.2.2.2.2.2.2.2.2 c1.1 c1.2.1 c1.2.2.1 c1.2.2.2.1 c1.2.2.2.2.1 c1.2.2.2.2.2.1 c1.2.2.2.2.2.2.1 c1.2.2.2.2.2.2.2.1 c1.2.2.2.2.2.2.2.2 c0.1 c0.2.1 c0.2.2.1 c0.2.2.2.1 c0.2.2.2.2.1 c0.2.2.2.2.2.1 c0.2.2.2.2.2.2.1 c0.2.2.2.2.2.2.2.1 c0.2.2.2.2.2.2.2.2 c1.1 c1.2.1 c1.2.2.1 c1.2.2.2.1 c1.2.2.2.2.1 c1.2.2.2.2.2.1 c1.2.2.2.2.2.2.1 c1.2.2.2.2.2.2.2.1 c1.2.2.2.2.2.2.2.2 (k, (sec, (bo, (w, (o, (n, b)))))) = match h87 w n c0.1 c0.2.1 c0.2.2.1 c0.2.2.2.1 c0.2.2.2.2.1 c0.2.2.2.2.2.1 c0.2.2.2.2.2.2.1 c0.2.2.2.2.2.2.2.1 c0.2.2.2.2.2.2.2.2 with
  | none => none
  | some r => match f95 (c0.1, (c0.2.1, (c0.2.2.1, (c0.2.2.2.1, (c0.2.2.2.2.1, (c0.2.2.2.2.2.1, (c0.2.2.2.2.2.2.1, (c0.2.2.2.2.2.2.2.1, (c0.2.2.2.2.2.2.2.2))))))))) w n with
    | none => none
    | some u => bif (r.1.1.1 != u.2.1) then some false else bif (r.1.1.2.1 != u.2.2) then some false else Mm N KK l z4 z5 (uu r.2.1) c1 (u.1) c1 := by kernel_rfl
theorem s002 {N : Nat} (hN : 3 ≤ N) (KK : K73) (l : List El) (z4 z5 : Int) {c0 c1 : Cc} (h0 : okC c0) (h1 : okC c1) (k : Int) (sec bo : Bool) (w o n : Int) {b : List Int} (hb : b.length ≤ 70000) : ∃ c0' c1', okC c0' ∧ okC c1' ∧ S73_002 f84 h86 f93 f108 f23 h88 f94 h87 f95 h92s f112 h97 h92 h86 h88 h87 h92s h97 h92 N KK 2 2 l z4 z5 c0.1 c0.2.1 c0.2.2.1 c0.2.2.2.1 c0.2.2.2.2.1 c0.2.2.2.2.2.1 c0.2.2.2.2.2.2.1 c0.2.2.2.2.2.2.2.1 c0.2.2.2.2.2.2.2.2 c1.1 c1.2.1 c1.2.2.1 c1.2.2.2.1 c1.2.2.2.2.1 c1.2.2.2.2.2.1 c1.2.2.2.2.2.2.1 c1.2.2.2.2.2.2.2.1 c1.2.2.2.2.2.2.2.2 c0.1 c0.2.1 c0.2.2.1 c0.2.2.2.1 c0.2.2.2.2.1 c0.2.2.2.2.2.1 c0.2.2.2.2.2.2.1 c0.2.2.2.2.2.2.2.1 c0.2.2.2.2.2.2.2.2 c1.1 c1.2.1 c1.2.2.1 c1.2.2.2.1 c1.2.2.2.2.1 c1.2.2.2.2.2.1 c1.2.2.2.2.2.2.1 c1.2.2.2.2.2.2.2.1 c1.2.2.2.2.2.2.2.2 (k, (sec, (bo, (w, (o, (n, b)))))) = kk KK l z4 z5 c0' c1' c0' c1' := by
  refine ⟨(sLose c0 w n).1, c1, sLose_ok h0, h1, ?_⟩
  rw [s002_eq, h87_is h0, f95_is h0]
  simp only [bne_self_eq_false, cond_false]
  exact Mm_is hN KK l z4 z5 (sLose_ok h0) h1
theorem s004 {N : Nat} (hN : 3 ≤ N) (KK : K73) (l : List El) (z4 z5 : Int) {c0 c1 : Cc} (h0 : okC c0) (h1 : okC c1) (k : Int) (sec bo : Bool) (w o n : Int) {b : List Int} (hb : b.length ≤ 70000) : ∃ c0' c1', okC c0' ∧ okC c1' ∧ S73_004 f84 h86 f93 f108 f23 h88 f94 h87 f95 h92s f112 h97 h92 h86 h88 h87 h92s h97 h92 N KK 2 2 l z4 z5 c0.1 c0.2.1 c0.2.2.1 c0.2.2.2.1 c0.2.2.2.2.1 c0.2.2.2.2.2.1 c0.2.2.2.2.2.2.1 c0.2.2.2.2.2.2.2.1 c0.2.2.2.2.2.2.2.2 c1.1 c1.2.1 c1.2.2.1 c1.2.2.2.1 c1.2.2.2.2.1 c1.2.2.2.2.2.1 c1.2.2.2.2.2.2.1 c1.2.2.2.2.2.2.2.1 c1.2.2.2.2.2.2.2.2 c0.1 c0.2.1 c0.2.2.1 c0.2.2.2.1 c0.2.2.2.2.1 c0.2.2.2.2.2.1 c0.2.2.2.2.2.2.1 c0.2.2.2.2.2.2.2.1 c0.2.2.2.2.2.2.2.2 c1.1 c1.2.1 c1.2.2.1 c1.2.2.2.1 c1.2.2.2.2.1 c1.2.2.2.2.2.1 c1.2.2.2.2.2.2.1 c1.2.2.2.2.2.2.2.1 c1.2.2.2.2.2.2.2.2 (k, (sec, (bo, (w, (o, (n, b)))))) = kk KK l z4 z5 c0' c1' c0' c1' := by
  refine ⟨(c0.1, (c0.2.1, (c0.2.2.1, (c0.2.2.2.1, (c0.2.2.2.2.1, (c0.2.2.2.2.2.1, (c0.2.2.2.2.2.2.1, (c0.2.2.2.2.2.2.2.1, true)))))))), c1, h0, h1, ?_⟩
  have e : S73_004 f84 h86 f93 f108 f23 h88 f94 h87 f95 h92s f112 h97 h92 h86 h88 h87 h92s h97 h92 N KK 2 2 l z4 z5 c0.1 c0.2.1 c0.2.2.1 c0.2.2.2.1 c0.2.2.2.2.1 c0.2.2.2.2.2.1 c0.2.2.2.2.2.2.1 c0.2.2.2.2.2.2.2.1 c0.2.2.2.2.2.2.2.2 c1.1 c1.2.1 c1.2.2.1 c1.2.2.2.1 c1.2.2.2.2.1 c1.2.2.2.2.2.1 c1.2.2.2.2.2.2.1 c1.2.2.2.2.2.2.2.1 c1.2.2.2.2.2.2.2.2 c0.1 c0.2.1 c0.2.2.1 c0.2.2.2.1 c0.2.2.2.2.1 c0.2.2.2.2.2.1 c0.2.2.2.2.2.2.1 c0.2.2.2.2.2.2.2.1 c0.2.2.2.2.2.2.2.2 c1.1 c1.2.1 c1.2.2.1 c1.2.2.2.1 c1.2.2.2.2.1 c1.2.2.2.2.2.1 c1.2.2.2.2.2.2.1 c1.2.2.2.2.2.2.2.1 c1.2.2.2.2.2.2.2.2 (k, (sec, (bo, (w, (o, (n, b)))))) = Mm N KK l z4 z5 ((c0.1, (c0.2.1, (c0.2.2.1, (c0.2.2.2.1, (c0.2.2.2.2.1, (c0.2.2.2.2.2.1, (c0.2.2.2.2.2.2.1, (c0.2.2.2.2.2.2.2.1, true))))))))) c1 ((c0.1, (c0.2.1, (c0.2.2.1, (c0.2.2.2.1, (c0.2.2.2.2.1, (c0.2.2.2.2.2.1, (c0.2.2.2.2.2.2.1, (c0.2.2.2.2.2.2.2.1, true))))))))) c1 := by kernel_rfl
  rw [e]
  exact Mm_is hN KK l z4 z5 (show okC (c0.1, (c0.2.1, (c0.2.2.1, (c0.2.2.2.1, (c0.2.2.2.2.1, (c0.2.2.2.2.2.1, (c0.2.2.2.2.2.2.1, (c0.2.2.2.2.2.2.2.1, true)))))))) from h0) h1
theorem s003_00 (N : Nat) (KK : K73) (l : List El) (z4 z5 : Int) (c0 c1 : Cc) (k : Int) (sec bo : Bool) (n : Int) (b : List Int) : S73_003 f84 h86 f93 f108 f23 h88 f94 h87 f95 h92s f112 h97 h92 h86 h88 h87 h92s h97 h92 N KK 2 2 l z4 z5 c0.1 c0.2.1 c0.2.2.1 c0.2.2.2.1 c0.2.2.2.2.1 c0.2.2.2.2.2.1 c0.2.2.2.2.2.2.1 c0.2.2.2.2.2.2.2.1 c0.2.2.2.2.2.2.2.2 c1.1 c1.2.1 c1.2.2.1 c1.2.2.2.1 c1.2.2.2.2.1 c1.2.2.2.2.2.1 c1.2.2.2.2.2.2.1 c1.2.2.2.2.2.2.2.1 c1.2.2.2.2.2.2.2.2 c0.1 c0.2.1 c0.2.2.1 c0.2.2.2.1 c0.2.2.2.2.1 c0.2.2.2.2.2.1 c0.2.2.2.2.2.2.1 c0.2.2.2.2.2.2.2.1 c0.2.2.2.2.2.2.2.2 c1.1 c1.2.1 c1.2.2.1 c1.2.2.2.1 c1.2.2.2.2.1 c1.2.2.2.2.2.1 c1.2.2.2.2.2.2.1 c1.2.2.2.2.2.2.2.1 c1.2.2.2.2.2.2.2.2 (k, (sec, (bo, (0, (0, (n, b)))))) = match h92 0 0 n c0.1 c0.2.1 c0.2.2.1 c0.2.2.2.1 c0.2.2.2.2.1 c0.2.2.2.2.2.1 c0.2.2.2.2.2.2.1 c0.2.2.2.2.2.2.2.1 c0.2.2.2.2.2.2.2.2 c1.1 c1.2.1 c1.2.2.1 c1.2.2.2.1 c1.2.2.2.2.1 c1.2.2.2.2.2.1 c1.2.2.2.2.2.2.1 c1.2.2.2.2.2.2.2.1 c1.2.2.2.2.2.2.2.2 with
  | none => none
  | some r => bif decide (n < 0) then chk r.1 0 1 (Mm N KK l z4 z5 (uu r.2.1) (uu r.2.2.1) (c0) (c1)) else bif c1.2.2.2.2.2.2.2.2 then chk r.1 0 11 (Mm N KK l z4 z5 (uu r.2.1) (uu r.2.2.1) (c0) (c1)) else bif decide (iadd .i64 ((c1.1.length : Nat) : Int) (if ((c0.1.length : Nat) : Int) < n then ((c0.1.length : Nat) : Int) else n) > 65536) then chk r.1 0 12 (Mm N KK l z4 z5 (uu r.2.1) (uu r.2.2.1) (c0) (c1)) else match f94 (c0.1, (c0.2.1, (c0.2.2.1, (c0.2.2.2.1, (c0.2.2.2.2.1, (c0.2.2.2.2.2.1, (c0.2.2.2.2.2.2.1, (c0.2.2.2.2.2.2.2.1, (c0.2.2.2.2.2.2.2.2))))))))) 0 n with
    | none => none
    | some t => match f93 (c1.1, (c1.2.1, (c1.2.2.1, (c1.2.2.2.1, (c1.2.2.2.2.1, (c1.2.2.2.2.2.1, (c1.2.2.2.2.2.2.1, (c1.2.2.2.2.2.2.2.1, (c1.2.2.2.2.2.2.2.2))))))))) 0 t.2.1 with
      | none => none
      | some v => chk r.1 ((t.2.1.length : Nat) : Int) 0 (Mm N KK l z4 z5 (uu r.2.1) (uu r.2.2.1) (t.1) (v.1)) := by kernel_rfl
theorem s003_01 (N : Nat) (KK : K73) (l : List El) (z4 z5 : Int) (c0 c1 : Cc) (k : Int) (sec bo : Bool) (n : Int) (b : List Int) : S73_003 f84 h86 f93 f108 f23 h88 f94 h87 f95 h92s f112 h97 h92 h86 h88 h87 h92s h97 h92 N KK 2 2 l z4 z5 c0.1 c0.2.1 c0.2.2.1 c0.2.2.2.1 c0.2.2.2.2.1 c0.2.2.2.2.2.1 c0.2.2.2.2.2.2.1 c0.2.2.2.2.2.2.2.1 c0.2.2.2.2.2.2.2.2 c1.1 c1.2.1 c1.2.2.1 c1.2.2.2.1 c1.2.2.2.2.1 c1.2.2.2.2.2.1 c1.2.2.2.2.2.2.1 c1.2.2.2.2.2.2.2.1 c1.2.2.2.2.2.2.2.2 c0.1 c0.2.1 c0.2.2.1 c0.2.2.2.1 c0.2.2.2.2.1 c0.2.2.2.2.2.1 c0.2.2.2.2.2.2.1 c0.2.2.2.2.2.2.2.1 c0.2.2.2.2.2.2.2.2 c1.1 c1.2.1 c1.2.2.1 c1.2.2.2.1 c1.2.2.2.2.1 c1.2.2.2.2.2.1 c1.2.2.2.2.2.2.1 c1.2.2.2.2.2.2.2.1 c1.2.2.2.2.2.2.2.2 (k, (sec, (bo, (0, (1, (n, b)))))) = match h92 0 1 n c0.1 c0.2.1 c0.2.2.1 c0.2.2.2.1 c0.2.2.2.2.1 c0.2.2.2.2.2.1 c0.2.2.2.2.2.2.1 c0.2.2.2.2.2.2.2.1 c0.2.2.2.2.2.2.2.2 c1.1 c1.2.1 c1.2.2.1 c1.2.2.2.1 c1.2.2.2.2.1 c1.2.2.2.2.2.1 c1.2.2.2.2.2.2.1 c1.2.2.2.2.2.2.2.1 c1.2.2.2.2.2.2.2.2 with
  | none => none
  | some r => bif decide (n < 0) then chk r.1 0 1 (Mm N KK l z4 z5 (uu r.2.1) (uu r.2.2.1) (c0) (c1)) else bif c1.2.2.2.2.2.2.2.2 then chk r.1 0 11 (Mm N KK l z4 z5 (uu r.2.1) (uu r.2.2.1) (c0) (c1)) else bif decide (iadd .i64 ((c1.2.2.2.2.1.length : Nat) : Int) (if ((c0.1.length : Nat) : Int) < n then ((c0.1.length : Nat) : Int) else n) > 65536) then chk r.1 0 12 (Mm N KK l z4 z5 (uu r.2.1) (uu r.2.2.1) (c0) (c1)) else match f94 (c0.1, (c0.2.1, (c0.2.2.1, (c0.2.2.2.1, (c0.2.2.2.2.1, (c0.2.2.2.2.2.1, (c0.2.2.2.2.2.2.1, (c0.2.2.2.2.2.2.2.1, (c0.2.2.2.2.2.2.2.2))))))))) 0 n with
    | none => none
    | some t => match f93 (c1.1, (c1.2.1, (c1.2.2.1, (c1.2.2.2.1, (c1.2.2.2.2.1, (c1.2.2.2.2.2.1, (c1.2.2.2.2.2.2.1, (c1.2.2.2.2.2.2.2.1, (c1.2.2.2.2.2.2.2.2))))))))) 1 t.2.1 with
      | none => none
      | some v => chk r.1 ((t.2.1.length : Nat) : Int) 0 (Mm N KK l z4 z5 (uu r.2.1) (uu r.2.2.1) (t.1) (v.1)) := by kernel_rfl
theorem s003_10 (N : Nat) (KK : K73) (l : List El) (z4 z5 : Int) (c0 c1 : Cc) (k : Int) (sec bo : Bool) (n : Int) (b : List Int) : S73_003 f84 h86 f93 f108 f23 h88 f94 h87 f95 h92s f112 h97 h92 h86 h88 h87 h92s h97 h92 N KK 2 2 l z4 z5 c0.1 c0.2.1 c0.2.2.1 c0.2.2.2.1 c0.2.2.2.2.1 c0.2.2.2.2.2.1 c0.2.2.2.2.2.2.1 c0.2.2.2.2.2.2.2.1 c0.2.2.2.2.2.2.2.2 c1.1 c1.2.1 c1.2.2.1 c1.2.2.2.1 c1.2.2.2.2.1 c1.2.2.2.2.2.1 c1.2.2.2.2.2.2.1 c1.2.2.2.2.2.2.2.1 c1.2.2.2.2.2.2.2.2 c0.1 c0.2.1 c0.2.2.1 c0.2.2.2.1 c0.2.2.2.2.1 c0.2.2.2.2.2.1 c0.2.2.2.2.2.2.1 c0.2.2.2.2.2.2.2.1 c0.2.2.2.2.2.2.2.2 c1.1 c1.2.1 c1.2.2.1 c1.2.2.2.1 c1.2.2.2.2.1 c1.2.2.2.2.2.1 c1.2.2.2.2.2.2.1 c1.2.2.2.2.2.2.2.1 c1.2.2.2.2.2.2.2.2 (k, (sec, (bo, (1, (0, (n, b)))))) = match h92 1 0 n c0.1 c0.2.1 c0.2.2.1 c0.2.2.2.1 c0.2.2.2.2.1 c0.2.2.2.2.2.1 c0.2.2.2.2.2.2.1 c0.2.2.2.2.2.2.2.1 c0.2.2.2.2.2.2.2.2 c1.1 c1.2.1 c1.2.2.1 c1.2.2.2.1 c1.2.2.2.2.1 c1.2.2.2.2.2.1 c1.2.2.2.2.2.2.1 c1.2.2.2.2.2.2.2.1 c1.2.2.2.2.2.2.2.2 with
  | none => none
  | some r => bif decide (n < 0) then chk r.1 0 1 (Mm N KK l z4 z5 (uu r.2.1) (uu r.2.2.1) (c0) (c1)) else bif c1.2.2.2.2.2.2.2.2 then chk r.1 0 11 (Mm N KK l z4 z5 (uu r.2.1) (uu r.2.2.1) (c0) (c1)) else bif decide (iadd .i64 ((c1.1.length : Nat) : Int) (if ((c0.2.2.2.2.1.length : Nat) : Int) < n then ((c0.2.2.2.2.1.length : Nat) : Int) else n) > 65536) then chk r.1 0 12 (Mm N KK l z4 z5 (uu r.2.1) (uu r.2.2.1) (c0) (c1)) else match f94 (c0.1, (c0.2.1, (c0.2.2.1, (c0.2.2.2.1, (c0.2.2.2.2.1, (c0.2.2.2.2.2.1, (c0.2.2.2.2.2.2.1, (c0.2.2.2.2.2.2.2.1, (c0.2.2.2.2.2.2.2.2))))))))) 1 n with
    | none => none
    | some t => match f93 (c1.1, (c1.2.1, (c1.2.2.1, (c1.2.2.2.1, (c1.2.2.2.2.1, (c1.2.2.2.2.2.1, (c1.2.2.2.2.2.2.1, (c1.2.2.2.2.2.2.2.1, (c1.2.2.2.2.2.2.2.2))))))))) 0 t.2.1 with
      | none => none
      | some v => chk r.1 ((t.2.1.length : Nat) : Int) 0 (Mm N KK l z4 z5 (uu r.2.1) (uu r.2.2.1) (t.1) (v.1)) := by kernel_rfl
theorem s003_11 (N : Nat) (KK : K73) (l : List El) (z4 z5 : Int) (c0 c1 : Cc) (k : Int) (sec bo : Bool) (n : Int) (b : List Int) : S73_003 f84 h86 f93 f108 f23 h88 f94 h87 f95 h92s f112 h97 h92 h86 h88 h87 h92s h97 h92 N KK 2 2 l z4 z5 c0.1 c0.2.1 c0.2.2.1 c0.2.2.2.1 c0.2.2.2.2.1 c0.2.2.2.2.2.1 c0.2.2.2.2.2.2.1 c0.2.2.2.2.2.2.2.1 c0.2.2.2.2.2.2.2.2 c1.1 c1.2.1 c1.2.2.1 c1.2.2.2.1 c1.2.2.2.2.1 c1.2.2.2.2.2.1 c1.2.2.2.2.2.2.1 c1.2.2.2.2.2.2.2.1 c1.2.2.2.2.2.2.2.2 c0.1 c0.2.1 c0.2.2.1 c0.2.2.2.1 c0.2.2.2.2.1 c0.2.2.2.2.2.1 c0.2.2.2.2.2.2.1 c0.2.2.2.2.2.2.2.1 c0.2.2.2.2.2.2.2.2 c1.1 c1.2.1 c1.2.2.1 c1.2.2.2.1 c1.2.2.2.2.1 c1.2.2.2.2.2.1 c1.2.2.2.2.2.2.1 c1.2.2.2.2.2.2.2.1 c1.2.2.2.2.2.2.2.2 (k, (sec, (bo, (1, (1, (n, b)))))) = match h92 1 1 n c0.1 c0.2.1 c0.2.2.1 c0.2.2.2.1 c0.2.2.2.2.1 c0.2.2.2.2.2.1 c0.2.2.2.2.2.2.1 c0.2.2.2.2.2.2.2.1 c0.2.2.2.2.2.2.2.2 c1.1 c1.2.1 c1.2.2.1 c1.2.2.2.1 c1.2.2.2.2.1 c1.2.2.2.2.2.1 c1.2.2.2.2.2.2.1 c1.2.2.2.2.2.2.2.1 c1.2.2.2.2.2.2.2.2 with
  | none => none
  | some r => bif decide (n < 0) then chk r.1 0 1 (Mm N KK l z4 z5 (uu r.2.1) (uu r.2.2.1) (c0) (c1)) else bif c1.2.2.2.2.2.2.2.2 then chk r.1 0 11 (Mm N KK l z4 z5 (uu r.2.1) (uu r.2.2.1) (c0) (c1)) else bif decide (iadd .i64 ((c1.2.2.2.2.1.length : Nat) : Int) (if ((c0.2.2.2.2.1.length : Nat) : Int) < n then ((c0.2.2.2.2.1.length : Nat) : Int) else n) > 65536) then chk r.1 0 12 (Mm N KK l z4 z5 (uu r.2.1) (uu r.2.2.1) (c0) (c1)) else match f94 (c0.1, (c0.2.1, (c0.2.2.1, (c0.2.2.2.1, (c0.2.2.2.2.1, (c0.2.2.2.2.2.1, (c0.2.2.2.2.2.2.1, (c0.2.2.2.2.2.2.2.1, (c0.2.2.2.2.2.2.2.2))))))))) 1 n with
    | none => none
    | some t => match f93 (c1.1, (c1.2.1, (c1.2.2.1, (c1.2.2.2.1, (c1.2.2.2.2.1, (c1.2.2.2.2.2.1, (c1.2.2.2.2.2.2.1, (c1.2.2.2.2.2.2.2.1, (c1.2.2.2.2.2.2.2.2))))))))) 1 t.2.1 with
      | none => none
      | some v => chk r.1 ((t.2.1.length : Nat) : Int) 0 (Mm N KK l z4 z5 (uu r.2.1) (uu r.2.2.1) (t.1) (v.1)) := by kernel_rfl
theorem s003 {N : Nat} (hN : 3 ≤ N) (KK : K73) (l : List El) (z4 z5 : Int) {c0 c1 : Cc} (h0 : okC c0) (h1 : okC c1) (k : Int) (sec bo : Bool) (w o n : Int) {b : List Int} (hb : b.length ≤ 70000) : ∃ c0' c1', okC c0' ∧ okC c1' ∧ S73_003 f84 h86 f93 f108 f23 h88 f94 h87 f95 h92s f112 h97 h92 h86 h88 h87 h92s h97 h92 N KK 2 2 l z4 z5 c0.1 c0.2.1 c0.2.2.1 c0.2.2.2.1 c0.2.2.2.2.1 c0.2.2.2.2.2.1 c0.2.2.2.2.2.2.1 c0.2.2.2.2.2.2.2.1 c0.2.2.2.2.2.2.2.2 c1.1 c1.2.1 c1.2.2.1 c1.2.2.2.1 c1.2.2.2.2.1 c1.2.2.2.2.2.1 c1.2.2.2.2.2.2.1 c1.2.2.2.2.2.2.2.1 c1.2.2.2.2.2.2.2.2 c0.1 c0.2.1 c0.2.2.1 c0.2.2.2.1 c0.2.2.2.2.1 c0.2.2.2.2.2.1 c0.2.2.2.2.2.2.1 c0.2.2.2.2.2.2.2.1 c0.2.2.2.2.2.2.2.2 c1.1 c1.2.1 c1.2.2.1 c1.2.2.2.1 c1.2.2.2.2.1 c1.2.2.2.2.2.1 c1.2.2.2.2.2.2.1 c1.2.2.2.2.2.2.2.1 c1.2.2.2.2.2.2.2.2 (k, (sec, (bo, (w, (o, (n, b)))))) = kk KK l z4 z5 c0' c1' c0' c1' := by
  refine ⟨(sRel c0 c1 w o n).1.1, (sRel c0 c1 w o n).1.2, (sRel_ok h0 h1).1, (sRel_ok h0 h1).2, ?_⟩
  rw [← Mm_is hN KK l z4 z5 (sRel_ok h0 h1).1 (sRel_ok h0 h1).2]
  by_cases hw : w = 0 ∨ w = 1
  · by_cases ho : o = 0 ∨ o = 1
    · rcases hw with rfl | rfl <;> rcases ho with rfl | rfl
      · rw [s003_00, h92_is h0 h1]
        unfold sRel
        rw [if_neg (by decide), if_neg (by decide)]
        by_cases hn : n < 0
        · rw [if_pos hn, decide_eq_true hn]
          simp only [cond_true]
          exact chk_is
        · rw [if_neg hn, decide_eq_false hn]
          have e : (if (((wb c0 0).length : Nat) : Int) < n then (((wb c0 0).length : Nat) : Int) else n) = ((cutN (wb c0 0) n : Nat) : Int) := mnI_is hn
          have hl := cutN_le (wb c0 0) n
          have hw := wb_le (w := 0) h0
          have hq := wb_le (w := 0) h1
          by_cases hs : c1.2.2.2.2.2.2.2.2 = true
          · rw [if_pos hs]
            simp only [cond_false]
            rw [bif_t hs]
            exact chk_is
          · rw [if_neg hs]
            simp only [cond_false]
            rw [bif_f (Bool.eq_false_iff.2 hs), show (if (((c0.1).length : Nat) : Int) < n then (((c0.1).length : Nat) : Int) else n) = ((cutN (wb c0 0) n : Nat) : Int) from e, show iadd .i64 (((c1.1).length : Nat) : Int) ((cutN (wb c0 0) n : Nat) : Int) = (((wb c1 0).length + cutN (wb c0 0) n : Nat) : Int) from addL hq (by omega)]
            by_cases hf : 65536 < (wb c1 0).length + cutN (wb c0 0) n
            · rw [if_pos hf, decide_eq_true (by omega), cond_true]
              exact chk_is
            · rw [if_neg hf, decide_eq_false (by omega), cond_false, f94_is h0]
              simp only []
              rw [f93_is h1 (by rw [sTake_len (by omega) hn]; omega)]
              exact chk_is
      · rw [s003_01, h92_is h0 h1]
        unfold sRel
        rw [if_neg (by decide), if_neg (by decide)]
        by_cases hn : n < 0
        · rw [if_pos hn, decide_eq_true hn]
          simp only [cond_true]
          exact chk_is
        · rw [if_neg hn, decide_eq_false hn]
          have e : (if (((wb c0 0).length : Nat) : Int) < n then (((wb c0 0).length : Nat) : Int) else n) = ((cutN (wb c0 0) n : Nat) : Int) := mnI_is hn
          have hl := cutN_le (wb c0 0) n
          have hw := wb_le (w := 0) h0
          have hq := wb_le (w := 1) h1
          by_cases hs : c1.2.2.2.2.2.2.2.2 = true
          · rw [if_pos hs]
            simp only [cond_false]
            rw [bif_t hs]
            exact chk_is
          · rw [if_neg hs]
            simp only [cond_false]
            rw [bif_f (Bool.eq_false_iff.2 hs), show (if (((c0.1).length : Nat) : Int) < n then (((c0.1).length : Nat) : Int) else n) = ((cutN (wb c0 0) n : Nat) : Int) from e, show iadd .i64 (((c1.2.2.2.2.1).length : Nat) : Int) ((cutN (wb c0 0) n : Nat) : Int) = (((wb c1 1).length + cutN (wb c0 0) n : Nat) : Int) from addL hq (by omega)]
            by_cases hf : 65536 < (wb c1 1).length + cutN (wb c0 0) n
            · rw [if_pos hf, decide_eq_true (by omega), cond_true]
              exact chk_is
            · rw [if_neg hf, decide_eq_false (by omega), cond_false, f94_is h0]
              simp only []
              rw [f93_is h1 (by rw [sTake_len (by omega) hn]; omega)]
              exact chk_is
      · rw [s003_10, h92_is h0 h1]
        unfold sRel
        rw [if_neg (by decide), if_neg (by decide)]
        by_cases hn : n < 0
        · rw [if_pos hn, decide_eq_true hn]
          simp only [cond_true]
          exact chk_is
        · rw [if_neg hn, decide_eq_false hn]
          have e : (if (((wb c0 1).length : Nat) : Int) < n then (((wb c0 1).length : Nat) : Int) else n) = ((cutN (wb c0 1) n : Nat) : Int) := mnI_is hn
          have hl := cutN_le (wb c0 1) n
          have hw := wb_le (w := 1) h0
          have hq := wb_le (w := 0) h1
          by_cases hs : c1.2.2.2.2.2.2.2.2 = true
          · rw [if_pos hs]
            simp only [cond_false]
            rw [bif_t hs]
            exact chk_is
          · rw [if_neg hs]
            simp only [cond_false]
            rw [bif_f (Bool.eq_false_iff.2 hs), show (if (((c0.2.2.2.2.1).length : Nat) : Int) < n then (((c0.2.2.2.2.1).length : Nat) : Int) else n) = ((cutN (wb c0 1) n : Nat) : Int) from e, show iadd .i64 (((c1.1).length : Nat) : Int) ((cutN (wb c0 1) n : Nat) : Int) = (((wb c1 0).length + cutN (wb c0 1) n : Nat) : Int) from addL hq (by omega)]
            by_cases hf : 65536 < (wb c1 0).length + cutN (wb c0 1) n
            · rw [if_pos hf, decide_eq_true (by omega), cond_true]
              exact chk_is
            · rw [if_neg hf, decide_eq_false (by omega), cond_false, f94_is h0]
              simp only []
              rw [f93_is h1 (by rw [sTake_len (by omega) hn]; omega)]
              exact chk_is
      · rw [s003_11, h92_is h0 h1]
        unfold sRel
        rw [if_neg (by decide), if_neg (by decide)]
        by_cases hn : n < 0
        · rw [if_pos hn, decide_eq_true hn]
          simp only [cond_true]
          exact chk_is
        · rw [if_neg hn, decide_eq_false hn]
          have e : (if (((wb c0 1).length : Nat) : Int) < n then (((wb c0 1).length : Nat) : Int) else n) = ((cutN (wb c0 1) n : Nat) : Int) := mnI_is hn
          have hl := cutN_le (wb c0 1) n
          have hw := wb_le (w := 1) h0
          have hq := wb_le (w := 1) h1
          by_cases hs : c1.2.2.2.2.2.2.2.2 = true
          · rw [if_pos hs]
            simp only [cond_false]
            rw [bif_t hs]
            exact chk_is
          · rw [if_neg hs]
            simp only [cond_false]
            rw [bif_f (Bool.eq_false_iff.2 hs), show (if (((c0.2.2.2.2.1).length : Nat) : Int) < n then (((c0.2.2.2.2.1).length : Nat) : Int) else n) = ((cutN (wb c0 1) n : Nat) : Int) from e, show iadd .i64 (((c1.2.2.2.2.1).length : Nat) : Int) ((cutN (wb c0 1) n : Nat) : Int) = (((wb c1 1).length + cutN (wb c0 1) n : Nat) : Int) from addL hq (by omega)]
            by_cases hf : 65536 < (wb c1 1).length + cutN (wb c0 1) n
            · rw [if_pos hf, decide_eq_true (by omega), cond_true]
              exact chk_is
            · rw [if_neg hf, decide_eq_false (by omega), cond_false, f94_is h0]
              simp only []
              rw [f93_is h1 (by rw [sTake_len (by omega) hn]; omega)]
              exact chk_is
    · have e : f112 w = some true := by rcases hw with rfl | rfl <;> rfl
      unfold S73_003
      rw [h92_is h0 h1, e, f112_no (w := o) (by omega) (by omega)]
      unfold sRel
      rw [if_neg (fun h => h hw), if_pos ho]
      exact chk_is (a := 0) (e := 1) (k := Mm N KK l z4 z5 c0 c1 c0 c1)
  · unfold S73_003
    rw [h92_is h0 h1, f112_no (w := w) (by omega) (by omega)]
    unfold sRel
    rw [if_pos hw]
    exact chk_is (a := 0) (e := 1) (k := Mm N KK l z4 z5 c0 c1 c0 c1)
end Go.Proofs.YtcnkihdjenjdgaaE
