/- Chapter 12: the laws. -/
import Derived.Test.YtdlmhclopdkhcaaDoorEvC12
import Derived.KernelRfl
namespace Go.Proofs.YtdlmhclopdkhcaaDoorE
open Go
set_option linter.unusedSimpArgs false
set_option linter.unusedVariables false
set_option maxRecDepth 4000
/-! ### alive -/
def rB : List Nat := [130, 48, 158, 205, 141, 112, 139, 94, 160, 143, 170, 57, 129, 205, 131, 84, 66, 51, 17, 74, 61, 133, 214, 223]
def mC : List Nat := [253, 236, 227, 113, 122, 140, 131, 140, 179, 136, 229, 39, 174, 60, 221, 49]
def kS : List Nat := [139, 124, 220, 20, 155, 153, 58, 27, 161, 24, 203, 21, 63, 86, 220, 203]
theorem rB_bel : bel 256 rB := by unfold bel rB; decide
theorem mC_bel : bel 256 mC := by unfold bel mC; decide
theorem mas_c : mas dgB rB = mC := by kernel_rfl
theorem kS_c : k12 mC sN = kS := by kernel_rfl
def f382 : Option Bool := some true
theorem p382_is {c370 : D370} {c378 : D378} {c379 : D379} {Y : List Int} (e1 : c370 cpS = some (nI dgB, 0)) (e2 : c378 (nI dgB) (nI rB) = some (nI mC)) (e3 : c379 (nI mC) true = some (nI kS ++ Y)) (hY : Y.length = 16) : p382 c370 c378 c379 0 = some true := by
  unfold p382
  rw [show c370 ([(99 : UInt8), (108 : UInt8), (105 : UInt8), (101 : UInt8), (110 : UInt8), (116 : UInt8), (80 : UInt8), (97 : UInt8), (115 : UInt8), (115 : UInt8)] : List UInt8) = some (nI dgB, 0) from e1]
  simp only []
  rw [fillT (show (nI dgB).length = ([(0 : Int), 0, 0, 0, 0, 0, 0, 0, 0, 0, 0, 0, 0, 0, 0, 0] : List Int).length from rfl), tkT (show (nI dgB).length = 16 from rfl), show c378 (nI dgB) ([(130 : Int), 48, 158, 205, 141, 112, 139, 94, 160, 143, 170, 57, 129, 205, 131, 84, 66, 51, 17, 74, 61, 133, 214, 223] : List Int) = some (nI mC) from e2]
  simp only []
  rw [fillT (show (nI mC).length = ([(0 : Int), 0, 0, 0, 0, 0, 0, 0, 0, 0, 0, 0, 0, 0, 0, 0] : List Int).length from rfl), tkT (show (nI mC).length = 16 from rfl), e3]
  have h32 : decide (16 ≤ (nI kS ++ Y).length) = true := decide_eq_true (by rw [List.length_append]; omega)
  simp only [h32, cond_true]
  rfl
theorem al12 : p382 h370 h378 h379 0 = some true := by
  have e2 := h378_is dgB_bel rfl rB_bel rfl
  rw [mas_c] at e2
  have e3 := h379_is mC_bel rfl true
  unfold of12 at e3
  rw [if_pos rfl, kS_c, ← nI_app] at e3
  exact p382_is h370_cp e2 e3 (by rw [nI_len, k12_len])
theorem E382 : EntOK FT XT 382 (en382 f382) := ok382 h370 h378 h379 E370 E378 E379 fun r h => ⟨0, by rw [← h]; exact al12⟩
/-! ### the document's upper key -/
def h386 (h r : List Int) := p386 h380 h381 20 h r
theorem E386 : EntOK FT XT 386 (en386 h386) := ok386 h380 h381 E380 E381 fun _ _ _ h => ⟨20, h⟩
theorem p386_is {c380 : D380} {c381 : D381} {H R M : List Int} {f g : Nat → Int} (hH : H.length = 16) (hR : R.length = 24) (hM : M.length = 16) (e1 : c380 H R = some M) (e2 : c381 M true = some (a16 f)) (e3 : c381 M false = some (a16 g)) :
    p386 c380 c381 20 H R = some (a16 f ++ a16 g) := by
  unfold p386
  rw [tkT hH, tkT hR, e1]
  simp only [hH, hR, hM, tkA0 hM, e2, e3, show List.drop 16 [(0 : Int), 0, 0, 0, 0, 0, 0, 0, 0, 0, 0, 0, 0, 0, 0, 0] = ([] : List Int) from rfl, show List.drop 32 [(0 : Int), 0, 0, 0, 0, 0, 0, 0, 0, 0, 0, 0, 0, 0, 0, 0, 0, 0, 0, 0, 0, 0, 0, 0, 0, 0, 0, 0, 0, 0, 0, 0] = ([] : List Int) from rfl, List.append_nil, List.nil_append, Nat.mul_one, Nat.le_refl, Nat.zero_add, List.drop_zero, List.take_zero, decide_true, cond_true, cond_false, beq_self_eq_true, Bool.and_true, Bool.true_and, Bool.and_self, show (16 : Nat) + 16 = 32 from rfl, show decide (16 ≤ 20) = true from rfl, show decide (16 ≤ 32) = true from rfl]
  rfl
theorem h386_is {h r : List Nat} (hb : bel 256 h) (hl : h.length = 16) (hr : bel 256 r) (hrl : r.length = 24) : h386 (nI h) (nI r) = some (nI (up h r)) := by
  have k1 : (nI (k12 (mas h r) cN)).length = 16 := by rw [nI_len, k12_len]
  have k2 : (nI (k12 (mas h r) sN)).length = 16 := by rw [nI_len, k12_len]
  have e2 := h381_is (mas_bel h r) (mas_len h r) true
  have e3 := h381_is (mas_bel h r) (mas_len h r) false
  rw [if_pos rfl, as_a16 k1] at e2
  rw [if_neg (by simp), as_a16 k2] at e3
  have := p386_is (by rw [nI_len, hl]) (by rw [nI_len, hrl]) (by rw [nI_len, mas_len]) (h380_is hb hl hr hrl) e2 e3
  rw [← as_a16 k1, ← as_a16 k2, nI_app] at this
  exact this
/-! ### Keys -/
theorem p366_is {c378 : D378} {c379 : D379} {c380 : D380} {c381 : D381} {c382 : D382} {H R M A B : List Int} {s : Bool} (hH : H.length = 16) (hR : R.length = 24) (hM : M.length = 16) (hA : A.length = 16) (hB : B.length = 16)
    (e1 : c378 H R = some M) (e2 : c379 M s = some (A ++ B)) (e3 : c380 H R = some M) (e4 : c381 M (!s) = some A) (e5 : c381 M s = some B) (e6 : c382 = some true) : p366 c378 c379 c380 c381 c382 0 H R s = some true := by
  unfold p366
  simp only [hH, hR, hM, hA, hB, tkT hH, tkT hR, tkA0 hH, tkA0 hR, tkA0 hM, e1, e2, e3, e4, e5, e6, List.length_append, tkA hA, dpA hA, tkA hB, dpA hB, tkA0 hA, tkA0 hB, dpA2 hA hB, dpA2 hB hA, dpA2 hB hB, tkA2 hA hB, tkA2 hB hA, show List.drop 16 [(0 : Int), 0, 0, 0, 0, 0, 0, 0, 0, 0, 0, 0, 0, 0, 0, 0] = ([] : List Int) from rfl, show List.drop 32 [(0 : Int), 0, 0, 0, 0, 0, 0, 0, 0, 0, 0, 0, 0, 0, 0, 0, 0, 0, 0, 0, 0, 0, 0, 0, 0, 0, 0, 0, 0, 0, 0, 0] = ([] : List Int) from rfl, List.append_nil, List.nil_append, Nat.mul_one, Nat.le_refl, Nat.zero_add, List.drop_zero, List.take_zero, decide_true, cond_true, cond_false, beq_self_eq_true, Bool.and_true, Bool.true_and, Bool.and_self, show (16 : Nat) + 16 = 32 from rfl, show decide (16 ≤ 20) = true from rfl, show decide (16 ≤ 32) = true from rfl]
def okA (n : Nat) (a : List Int) : Prop := a.length = n ∧ ∀ x ∈ a, (Lit.int .u8 x).wf = true
theorem okA_is {n : Nat} {a : List Int} (h : okA n a) : ∃ r : List Nat, a = nI r ∧ bel 256 r ∧ r.length = n := by
  obtain ⟨h1, h2⟩ := h
  obtain ⟨r, rfl, hr⟩ := wf_bel (k := .u8) rfl h2
  exact ⟨r, rfl, hr, by rw [nI_len] at h1; exact h1⟩
open Classical in
noncomputable def f366 (a b : List Int) (s : Bool) : Option Bool := if okA 16 a ∧ okA 24 b then some true else none
theorem E366 : EntOK FT XT 366 (en366 f366) := ok366 h378 h379 h380 h381 f382 E378 E379 E380 E381 E382 fun a b s r h => ⟨0, by
  unfold f366 at h
  split at h <;> try (cases h; done)
  rename_i hc
  rw [← h]
  obtain ⟨x, rfl, hx, hxl⟩ := okA_is hc.1
  obtain ⟨y, rfl, hy, hyl⟩ := okA_is hc.2
  have e2 := h379_is (mas_bel x y) (mas_len x y) s
  have e4 := h381_is (mas_bel x y) (mas_len x y) (!s)
  have e5 := h381_is (mas_bel x y) (mas_len x y) s
  cases s
  · unfold of12 at e2
    rw [if_neg (by simp), ← nI_app] at e2
    simp only [Bool.not_false, if_true] at e4
    simp only [Bool.false_eq_true, if_false] at e5
    exact p366_is (by rw [nI_len, hxl]) (by rw [nI_len, hyl]) (by rw [nI_len, mas_len]) (by rw [nI_len, k12_len]) (by rw [nI_len, k12_len]) (h378_is hx hxl hy hyl) e2 (h380_is hx hxl hy hyl) e4 e5 rfl
  · unfold of12 at e2
    rw [if_pos rfl, ← nI_app] at e2
    simp only [Bool.not_true, Bool.false_eq_true, if_false] at e4
    simp only [if_true] at e5
    exact p366_is (by rw [nI_len, hxl]) (by rw [nI_len, hyl]) (by rw [nI_len, mas_len]) (by rw [nI_len, k12_len]) (by rw [nI_len, k12_len]) (h378_is hx hxl hy hyl) e2 (h380_is hx hxl hy hyl) e4 e5 rfl⟩
theorem law366 (z0 z1 : List Int) (z2 : Bool) (h0 : ∀ x ∈ z0, (Lit.int .u8 x).wf = true) (h1 : ∀ x ∈ z1, (Lit.int .u8 x).wf = true) (h2 : True) (hs0 : z0.length = 16) (hs1 : z1.length = 24) :
    Ans FT XT 366 (encL [Sh.ar .u8, Sh.ar .u8, Sh.bool] (z0, (z1, (z2, ())))) [] (.bool true) [] :=
  E366.2 (z0, (z1, (z2, ()))) true (if_pos ⟨⟨hs0, h0⟩, ⟨hs1, h1⟩⟩)
/-! ### Both -/
theorem p367_is {c379 : D379} {c383 : D383} {c382 : D382} {M A B : List Int} (hM : M.length = 16) (hA : A.length = 16) (hB : B.length = 16) (e1 : c379 M false = some (A ++ B)) (e2 : c379 M true = some (B ++ A))
    (e3 : c383 (A ++ B) false = some (A ++ B)) (e4 : c383 (B ++ A) true = some (A ++ B)) (e6 : c382 = some true) : p367 c379 c383 c382 0 M = some true := by
  unfold p367
  simp only [hM, hA, hB, tkT hM, tkA0 hM, e1, e2, e3, e4, e6, List.length_append, tkA hA, dpA hA, tkA hB, dpA hB, tkA0 hA, tkA0 hB, dpA2 hA hB, dpA2 hB hA, dpA2 hB hB, tkA2 hA hB, tkA2 hB hA, show List.drop 16 [(0 : Int), 0, 0, 0, 0, 0, 0, 0, 0, 0, 0, 0, 0, 0, 0, 0] = ([] : List Int) from rfl, show List.drop 32 [(0 : Int), 0, 0, 0, 0, 0, 0, 0, 0, 0, 0, 0, 0, 0, 0, 0, 0, 0, 0, 0, 0, 0, 0, 0, 0, 0, 0, 0, 0, 0, 0, 0] = ([] : List Int) from rfl, List.append_nil, List.nil_append, Nat.mul_one, Nat.le_refl, Nat.zero_add, List.drop_zero, List.take_zero, decide_true, cond_true, cond_false, beq_self_eq_true, Bool.and_true, Bool.true_and, Bool.and_self, show (16 : Nat) + 16 = 32 from rfl, show decide (16 ≤ 20) = true from rfl, show decide (16 ≤ 32) = true from rfl]
open Classical in
noncomputable def f367 (a : List Int) : Option Bool := if okA 16 a then some true else none
theorem E367 : EntOK FT XT 367 (en367 f367) := ok367 h379 h383 f382 E379 E383 E382 fun a r h => ⟨0, by
  unfold f367 at h
  split at h <;> try (cases h; done)
  rename_i hc
  rw [← h]
  obtain ⟨x, rfl, hx, hxl⟩ := okA_is hc
  have e1 := h379_is hx hxl false
  have e2 := h379_is hx hxl true
  unfold of12 at e1 e2
  rw [if_neg (by simp), ← nI_app] at e1
  rw [if_pos rfl, ← nI_app] at e2
  have hA : (nI (k12 x cN)).length = 16 := by rw [nI_len, k12_len]
  have hB : (nI (k12 x sN)).length = 16 := by rw [nI_len, k12_len]
  exact p367_is (by rw [nI_len, hxl]) hA hB e1 e2 (h383_is hA hB false) (h383_is hB hA true) rfl⟩
theorem law367 (z0 : List Int) (h0 : ∀ x ∈ z0, (Lit.int .u8 x).wf = true) (hs0 : z0.length = 16) : Ans FT XT 367 (encL [Sh.ar .u8] (z0, ())) [] (.bool true) [] :=
  E367.2 (z0, ()) true (if_pos ⟨hs0, h0⟩)
/-! ### Upper -/
theorem L368_is (c384 : D384) (c383 : D383) (c386 : D386) (c382 : D382) (N : Nat) (q : List Int → List Int → List Int → Option Bool) (v5 v6 v8 A B : List Int) (hA : A.length = 16) (hB : B.length = 16) : ∀ d i fuel : Nat, i + d = 16 → d < fuel →
    L368_0 c384 c383 c386 c382 N q fuel (i : Int) v5 v6 (A ++ B) v8 (A ++ B) (B ++ A) = q v5 v6 v8 := by
  intro d
  induction d with
  | zero =>
    intro i fuel hd hf
    obtain ⟨m, rfl⟩ : ∃ m, fuel = m + 1 := ⟨fuel - 1, by omega⟩
    simp only [L368_0, show ¬ ((i : Int) < 16) by omega, decide_false, cond_false]
  | succ d ih =>
    intro i fuel hd hf
    obtain ⟨m, rfl⟩ : ∃ m, fuel = m + 1 := ⟨fuel - 1, by omega⟩
    have hi : i < 16 := by omega
    have g1 : ∀ X Y : List Int, X.length = 16 → Y.length = 16 → (X ++ Y)[i]? = X[i]? := fun X Y h1 h2 => List.getElem?_append_left (by omega)
    have g2 : ∀ X Y : List Int, X.length = 16 → Y.length = 16 → (X ++ Y)[16 + i]? = Y[i]? := fun X Y h1 h2 => by
      rw [List.getElem?_append_right (by omega), h1]; congr 1; omega
    have a1 : A[i]? = some A[i] := List.getElem?_eq_getElem (by omega)
    have b1 : B[i]? = some B[i] := List.getElem?_eq_getElem (by omega)
    have e16 : iadd .i64 (16 : Int) (i : Int) = ((16 + i : Nat) : Int) := addn (a := 16) (b := i) (by omega)
    simp only [L368_0, show ((i : Int) < 16) by omega, show ((i : Int) < 32) by omega, show ((0 : Int) ≤ (i : Int)) by omega, show ((0 : Int) ≤ ((16 + i : Nat) : Int)) by omega, show (((16 + i : Nat) : Int) < 32) by omega, e16, Int.toNat_natCast, Nat.mul_one, Nat.zero_add, decide_true, Bool.and_self, cond_true, cond_false, g1 A B hA hB, g1 B A hB hA, g2 A B hA hB, g2 B A hB hA, a1, b1, bne_self_eq_false]
    rw [up1 (by omega)]
    exact ih (i + 1) m (by omega) (by omega)
theorem p368_is {c384 : D384} {c383 : D383} {c386 : D386} {c382 : D382} {H R U A B : List Int} (hH : H.length = 16) (hR : R.length = 24) (hU : U.length = 32) (hA : A.length = 16) (hB : B.length = 16)
    (e1 : c384 H R false = some U) (e2 : c383 (A ++ B) false = some (A ++ B)) (e3 : c383 (A ++ B) true = some (B ++ A)) (e4 : c386 H R = some U) (e5 : c384 H R true = some U) (e6 : c382 = some true) : p368 c384 c383 c386 c382 40 H R (A ++ B) = some true := by
  have hz : ([(0 : Int), 0, 0, 0, 0, 0, 0, 0, 0, 0, 0, 0, 0, 0, 0, 0] : List Int).length = 16 := rfl
  have hz2 : ([(0 : Int), 0, 0, 0, 0, 0, 0, 0, 0, 0, 0, 0, 0, 0, 0, 0, 0, 0, 0, 0, 0, 0, 0, 0, 0, 0, 0, 0, 0, 0, 0, 0] : List Int).length = 32 := rfl
  have hUd : List.drop 32 U = [] := List.drop_eq_nil_of_le (by omega)
  have hzt : List.take 32 ([(0 : Int), 0, 0, 0, 0, 0, 0, 0, 0, 0, 0, 0, 0, 0, 0, 0, 0, 0, 0, 0, 0, 0, 0, 0, 0, 0, 0, 0, 0, 0, 0, 0] : List Int) = [(0 : Int), 0, 0, 0, 0, 0, 0, 0, 0, 0, 0, 0, 0, 0, 0, 0, 0, 0, 0, 0, 0, 0, 0, 0, 0, 0, 0, 0, 0, 0, 0, 0] := rfl
  unfold p368
  simp only [hH, hR, hU, hA, hB, hz, hz2, hUd, hzt, tkT hH, tkT hR, tkA0 hH, tkA0 hR, tkA0 hU, dpA2 hA hz, e1, e2, e3, e4, e5, e6, List.length_append, show List.drop 16 [(0 : Int), 0, 0, 0, 0, 0, 0, 0, 0, 0, 0, 0, 0, 0, 0, 0, 0, 0, 0, 0, 0, 0, 0, 0, 0, 0, 0, 0, 0, 0, 0, 0] = [(0 : Int), 0, 0, 0, 0, 0, 0, 0, 0, 0, 0, 0, 0, 0, 0, 0] from rfl, tkA hA, dpA hA, tkA hB, dpA hB, tkA0 hA, tkA0 hB, dpA2 hA hB, dpA2 hB hA, dpA2 hB hB, tkA2 hA hB, tkA2 hB hA, show List.drop 16 [(0 : Int), 0, 0, 0, 0, 0, 0, 0, 0, 0, 0, 0, 0, 0, 0, 0] = ([] : List Int) from rfl, show List.drop 32 [(0 : Int), 0, 0, 0, 0, 0, 0, 0, 0, 0, 0, 0, 0, 0, 0, 0, 0, 0, 0, 0, 0, 0, 0, 0, 0, 0, 0, 0, 0, 0, 0, 0] = ([] : List Int) from rfl, List.append_nil, List.nil_append, Nat.mul_one, Nat.le_refl, Nat.zero_add, List.drop_zero, List.take_zero, decide_true, cond_true, cond_false, beq_self_eq_true, Bool.and_true, Bool.true_and, Bool.and_self, show (16 : Nat) + 16 = 32 from rfl, show decide (16 ≤ 20) = true from rfl, show decide (16 ≤ 32) = true from rfl]
  refine (L368_is _ _ _ _ _ _ _ _ _ _ _ hA hB 16 0 40 rfl (by omega)).trans ?_
  simp only [hH, hR, hU, hA, hB, hz, hz2, hUd, hzt, tkT hH, tkT hR, tkA0 hH, tkA0 hR, tkA0 hU, tkA hz2, e1, e2, e3, e4, e5, e6, List.length_append, List.length_nil, Nat.add_zero, tkA hA, dpA hA, tkA hB, dpA hB, tkA0 hA, tkA0 hB, dpA2 hA hB, dpA2 hB hA, dpA2 hB hB, tkA2 hA hB, tkA2 hB hA, show List.drop 16 [(0 : Int), 0, 0, 0, 0, 0, 0, 0, 0, 0, 0, 0, 0, 0, 0, 0] = ([] : List Int) from rfl, show List.drop 32 [(0 : Int), 0, 0, 0, 0, 0, 0, 0, 0, 0, 0, 0, 0, 0, 0, 0, 0, 0, 0, 0, 0, 0, 0, 0, 0, 0, 0, 0, 0, 0, 0, 0] = ([] : List Int) from rfl, List.append_nil, List.nil_append, Nat.mul_one, Nat.le_refl, Nat.zero_add, List.drop_zero, List.take_zero, decide_true, cond_true, cond_false, beq_self_eq_true, Bool.and_true, Bool.true_and, Bool.and_self, show (16 : Nat) + 16 = 32 from rfl, show decide (16 ≤ 20) = true from rfl, show decide (16 ≤ 32) = true from rfl]
open Classical in
noncomputable def f368 (a b c : List Int) : Option Bool := if okA 16 a ∧ okA 24 b ∧ okA 32 c then some true else none
theorem E368 : EntOK FT XT 368 (en368 f368) := ok368 h384 h383 h386 f382 E384 E383 E386 E382 fun a b c r h => ⟨40, by
  unfold f368 at h
  split at h <;> try (cases h; done)
  rename_i hc
  rw [← h]
  obtain ⟨x, rfl, hx, hxl⟩ := okA_is hc.1
  obtain ⟨y, rfl, hy, hyl⟩ := okA_is hc.2.1
  have hl := hc.2.2.1
  have hA : (c.take 16).length = 16 := by rw [List.length_take]; omega
  have hB : (c.drop 16).length = 16 := by rw [List.length_drop]; omega
  have e2 := h383_is hA hB false
  have e3 := h383_is hA hB true
  have := p368_is (by rw [nI_len, hxl]) (by rw [nI_len, hyl]) (by rw [nI_len, up_len]) hA hB (h384_is hx hxl hy hyl false) e2 e3 (h386_is hx hxl hy hyl) (h384_is hx hxl hy hyl true) (rfl : f382 = some true)
  rw [List.take_append_drop] at this
  exact this⟩
theorem law368 (z0 z1 z2 : List Int) (h0 : ∀ x ∈ z0, (Lit.int .u8 x).wf = true) (h1 : ∀ x ∈ z1, (Lit.int .u8 x).wf = true) (h2 : ∀ x ∈ z2, (Lit.int .u8 x).wf = true) (hs0 : z0.length = 16) (hs1 : z1.length = 24) (hs2 : z2.length = 32) :
    Ans FT XT 368 (encL [Sh.ar .u8, Sh.ar .u8, Sh.ar .u8] (z0, (z1, (z2, ())))) [] (.bool true) [] :=
  E368.2 (z0, (z1, (z2, ()))) true (if_pos ⟨⟨hs0, h0⟩, ⟨hs1, h1⟩, ⟨hs2, h2⟩⟩)
end Go.Proofs.YtdlmhclopdkhcaaDoorE
