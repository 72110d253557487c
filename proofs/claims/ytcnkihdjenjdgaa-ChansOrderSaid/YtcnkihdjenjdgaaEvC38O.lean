/- Chapter 38: order. -/
import Derived.Test.YtcnkihdjenjdgaaEvC38
namespace Go.Proofs.YtcnkihdjenjdgaaE
open Go
set_option linter.unusedSimpArgs false
set_option linter.unusedVariables false
set_option maxRecDepth 4000

theorem any_lt {α : Type} (pre t : List α) (x : α) : decide (((pre.length : Nat) : Int) < (((pre ++ x :: t).length : Nat) : Int)) = true := by simp; omega
theorem any_end {α : Type} (pre : List α) : decide (((pre.length : Nat) : Int) < (((pre ++ ([] : List α)).length : Nat) : Int)) = false := by simp
theorem any_app {α : Type} (pre t : List α) (x : α) : pre ++ x :: t = pre ++ [x] ++ t := by simp
theorem any_inc {α : Type} (pre : List α) (x : α) (h : pre.length ≤ 100000) : iadd .i64 ((pre.length : Nat) : Int) 1 = (((pre ++ [x]).length : Nat) : Int) := by
  rw [show (pre ++ [x]).length = pre.length + 1 by simp]; exact addn (a := pre.length) (b := 1) (by omega)
theorem any_at {α : Type} (pre t : List α) (x : α) : geti (pre ++ x :: t) ((pre.length : Nat) : Int) = some x := by
  rw [geti_nat, List.getElem?_append_right (Nat.le_refl _), Nat.sub_self]; rfl
theorem L71_0_is {N : Nat} {q : List Int → Nat → Bool → Int → Int → Int → Int → Int → Int → Int → Int → Int → Int → Int → Int → Int → Int → Int → Int → Int → Int → Int → Int → Int → Int → Int → Int → Int → Int → Int → Int → Int → Int → Int → Int → List Int → Int → Int → Int → List Int → Int → Int → Int → Bool → List Int → Option Bool} {v3 : List Int} (hq : ∀ all : List Int, all.length ≤ 20000 → q v3 all.length true 0 0 0 0 0 0 0 0 0 0 0 0 0 0 0 0 0 0 0 0 0 0 0 0 0 0 0 0 0 0 0 0 [] 0 0 0 all ((all.length : Nat) : Int) 0 0 false all = some true) : ∀ (ps pre : List (List Int)) (acc : List Int) (fuel : Nat), ps.length < fuel → (pre ++ ps).length ≤ 100 → acc.length + 500 * ps.length ≤ 20000 →
    L71_0 f84 h86 h87 h88 h89 f23 h90 h91 N q fuel v3 acc.length (pre ++ ps) (((pre ++ ps).length : Nat) : Int) ((pre.length : Nat) : Int) true 0 0 0 0 0 0 0 0 0 0 0 0 0 0 0 0 0 0 0 0 0 0 0 0 0 0 0 0 0 0 0 0 [] 0 0 0 acc ((acc.length : Nat) : Int) 0 0 false acc = some true
  | [], pre, acc, fuel + 1, _, _, ha => by
    rw [L71_0.eq_def]; simp only []
    rw [any_end, cond_false]
    exact hq acc (by simpa using ha)
  | x :: ps, pre, acc, fuel + 1, hf, hp, ha => by
    have hp2 : pre.length + ps.length + 1 ≤ 100 := by simpa [Nat.add_assoc] using hp
    rw [List.length_cons] at ha
    rw [L71_0.eq_def]; simp only []
    rw [any_lt, cond_true, any_at]
    simp only []
    by_cases h5 : 500 < x.length
    · rw [decide_eq_true (show ((x.length : Nat) : Int) > 500 by omega), cond_true]; rfl
    have ih := L71_0_is (N := N) hq ps (pre ++ [x]) (acc ++ x) fuel (by simpa using hf) (by rw [← any_app]; exact hp) (by rw [List.length_append]; omega)
    rw [← any_app pre ps x] at ih
    have w := h86_1 (x1 := 0) (x2 := 0) (x3 := 0) (x4 := 0) (x5 := 0) (x6 := 0) (x7 := 0) (x8 := 0) (x9 := 0) (x10 := 0) (x11 := 0) (x12 := 0) (x13 := 0) (x14 := 0) (x15 := 0) (x16 := 0) (x17 := 0) (x18 := 0) (x19 := 0) (x20 := 0) (x21 := 0) (x22 := 0) (x23 := 0) (x24 := 0) (x25 := 0) (x26 := 0) (x27 := 0) (x28 := 0) (x29 := 0) (x30 := 0) (x31 := 0) (x32 := 0) (b0 := []) (b1 := acc) (b := x) (p0 := 0) (t0 := 0) (l0 := 0) (p1 := ((acc.length : Nat) : Int)) (t1 := 0) (l1 := 0) (by omega)
    have e1 : iadd .i64 ((acc.length : Nat) : Int) ((x.length : Nat) : Int) = (((acc ++ x).length : Nat) : Int) := by rw [List.length_append]; exact addn (by omega)
    rw [e1] at w
    rw [decide_eq_false (show ¬ ((x.length : Nat) : Int) > 500 by omega), cond_false, w]
    simp only [st]
    rw [show ((0 : Int) != 0) = false from rfl, cond_false, show (acc.length == acc.length * 1) = true from beq_iff_eq.2 (by omega), decide_eq_true (by omega), decide_eq_true (by omega), Bool.and_self, Bool.and_self, cond_true, any_inc pre x (by omega), show acc.length + x.length = (acc ++ x).length by rw [List.length_append]]
    exact ih
theorem geti_n (pre t : List Nat) (x : Nat) : geti (nI (pre ++ x :: t)) ((pre.length : Nat) : Int) = some ((x : Nat) : Int) := by
  rw [geti_nat, nI_get, List.getElem?_append_right (Nat.le_refl _), Nat.sub_self]; rfl
theorem L71_1_is {N S : Nat} {q : Nat → Nat → Int → Bool → Int → Int → Int → Int → Int → Int → Int → Int → Int → Int → Int → Int → Int → Int → Int → Int → Int → Int → Int → Int → Int → Int → Int → Int → Int → Int → Int → Int → Int → Int → Int → Int → List Int → Int → Int → Int → List Int → Int → Int → Int → Bool → List Int → List Int → Option Bool} (hS : S ≤ 30000) (hq : ∀ (got rest : List Int) (lost : Nat), got.length + lost + rest.length = S → q (got ++ rest).length got.length ((lost : Nat) : Int) true 0 0 0 0 0 0 0 0 0 0 0 0 0 0 0 0 0 0 0 0 0 0 0 0 0 0 0 0 0 0 0 0 [] 0 0 0 rest ((S : Nat) : Int) ((got.length : Nat) : Int) ((lost : Nat) : Int) false (got ++ rest) got = some true) : ∀ (t pre : List Nat) (got rest : List Int) (lost fuel : Nat), t.length < fuel → (pre ++ t).length ≤ 100 → bel 256 t → got.length + lost + rest.length = S →
    L71_1 f84 h86 h87 h88 h89 f23 h90 h91 N q fuel (got ++ rest).length got.length ((lost : Nat) : Int) (nI (pre ++ t)) (((pre ++ t).length : Nat) : Int) ((pre.length : Nat) : Int) true 0 0 0 0 0 0 0 0 0 0 0 0 0 0 0 0 0 0 0 0 0 0 0 0 0 0 0 0 0 0 0 0 [] 0 0 0 rest ((S : Nat) : Int) ((got.length : Nat) : Int) ((lost : Nat) : Int) false (got ++ rest) got = some true
  | [], pre, got, rest, lost, fuel + 1, _, _, _, hi => by
    rw [L71_1.eq_def]; simp only []
    rw [any_end, cond_false]
    exact hq got rest lost hi
  | x :: t, pre, got, rest, lost, fuel + 1, hf, hp, ht, hi => by
    have hp2 : pre.length + t.length + 1 ≤ 100 := by simpa [Nat.add_assoc] using hp
    have hx : x < 256 := ht x (by simp)
    have ih := fun got' rest' lost' => L71_1_is (N := N) hS hq t (pre ++ [x]) got' rest' lost' fuel (by simpa using hf) (by rw [← any_app]; exact hp) (fun z hz => ht z (by simp [hz]))
    rw [← any_app pre t x] at ih
    obtain ⟨k, hk⟩ : ∃ k, min rest.length x = k := ⟨_, rfl⟩
    have hkl : k ≤ rest.length := by omega
    have hl : (got ++ rest).length = got.length + rest.length := List.length_append
    have htk : (rest.take k).length = k := by rw [List.length_take]; omega
    have hdk : (rest.drop k).length = rest.length - k := List.length_drop
    rw [L71_1.eq_def]; simp only []
    rw [any_lt, cond_true, geti_n]
    simp only [wrap_i64 (x := ((x : Nat) : Int)) (by omega) (by omega)]
    by_cases h3 : (irem ((pre.length : Nat) : Int) 4 == 3) = true
    · have w := h87_1 (x1 := 0) (x2 := 0) (x3 := 0) (x4 := 0) (x5 := 0) (x6 := 0) (x7 := 0) (x8 := 0) (x9 := 0) (x10 := 0) (x11 := 0) (x12 := 0) (x13 := 0) (x14 := 0) (x15 := 0) (x16 := 0) (x17 := 0) (x18 := 0) (x19 := 0) (x20 := 0) (x21 := 0) (x22 := 0) (x23 := 0) (x24 := 0) (x25 := 0) (x26 := 0) (x27 := 0) (x28 := 0) (x29 := 0) (x30 := 0) (x31 := 0) (x32 := 0) (b0 := []) (b1 := rest) (p0 := 0) (t0 := 0) (l0 := 0) (p1 := ((S : Nat) : Int)) (t1 := ((got.length : Nat) : Int)) (l1 := ((lost : Nat) : Int)) hk (by omega)
      have e1 : iadd .i64 ((lost : Nat) : Int) ((k : Nat) : Int) = ((lost + k : Nat) : Int) := addn (by omega)
      have e2 : iadd .i64 ((got.length : Nat) : Int) ((k : Nat) : Int) = ((got.length + k : Nat) : Int) := addn (by omega)
      have tk : List.take (got.length * 1) (List.drop 0 (got ++ rest)) = got := by rw [Nat.mul_one, List.drop_zero, List.take_left]
      have dk : List.take ((got.length + rest.length - (got.length + k)) * 1) (List.drop (0 + (got.length + k) * 1) (got ++ rest)) = rest.drop k := by
        rw [Nat.mul_one, Nat.mul_one, Nat.zero_add, ← List.drop_drop, List.drop_left, List.take_of_length_le (by rw [hdk]; omega)]
      rw [e1] at w
      rw [h3, cond_true, w]
      simp only [st, e1, e2, Int.toNat_natCast, hl, tk, dk]
      rw [show ((0 : Int) != 0) = false from rfl, cond_false, decide_eq_false (show ¬ ((k : Nat) : Int) > ((x : Nat) : Int) by omega), cond_false, decide_eq_true (show (0 : Int) ≤ ((got.length : Nat) : Int) by omega), decide_eq_true (show ((got.length : Nat) : Int) ≤ ((got.length + rest.length : Nat) : Int) by omega), Bool.and_self, cond_true, decide_eq_true (show 0 + got.length * 1 ≤ got.length + rest.length by omega), cond_true, decide_eq_true (show got.length * 1 ≤ 1099511627776 by omega), decide_eq_true (show got.length ≤ 1099511627776 by omega), Bool.and_self, cond_true, decide_eq_true (show (0 : Int) ≤ ((got.length + k : Nat) : Int) by omega), decide_eq_true (show ((got.length + k : Nat) : Int) ≤ ((got.length + rest.length : Nat) : Int) by omega), Bool.and_self, cond_true, decide_eq_true (show 0 + (got.length + k) * 1 + (got.length + rest.length - (got.length + k)) * 1 ≤ got.length + rest.length by omega), cond_true, show (got.length == got.length * 1) = true from beq_iff_eq.2 (by omega), decide_eq_true (show (got.length + (got.length + rest.length - (got.length + k))) * 1 ≤ 1099511627776 by omega), decide_eq_true (show got.length + (got.length + rest.length - (got.length + k)) ≤ 1099511627776 by omega), Bool.and_self, Bool.and_self, cond_true, any_inc pre x (by omega), show got.length + (got.length + rest.length - (got.length + k)) = (got ++ rest.drop k).length by rw [List.length_append, hdk]; omega]
      exact ih got (rest.drop k) (lost + k) (by omega)
    · have w := h88_1 (x1 := 0) (x2 := 0) (x3 := 0) (x4 := 0) (x5 := 0) (x6 := 0) (x7 := 0) (x8 := 0) (x9 := 0) (x10 := 0) (x11 := 0) (x12 := 0) (x13 := 0) (x14 := 0) (x15 := 0) (x16 := 0) (x17 := 0) (x18 := 0) (x19 := 0) (x20 := 0) (x21 := 0) (x22 := 0) (x23 := 0) (x24 := 0) (x25 := 0) (x26 := 0) (x27 := 0) (x28 := 0) (x29 := 0) (x30 := 0) (x31 := 0) (x32 := 0) (b0 := []) (b1 := rest) (p0 := 0) (t0 := 0) (l0 := 0) (p1 := ((S : Nat) : Int)) (t1 := ((got.length : Nat) : Int)) (l1 := ((lost : Nat) : Int)) hk (by omega)
      have e1 : iadd .i64 ((got.length : Nat) : Int) ((k : Nat) : Int) = (((got ++ rest.take k).length : Nat) : Int) := by rw [List.length_append, htk]; exact addn (by omega)
      rw [e1] at w
      rw [eq_false_of_ne_true h3, cond_false, w]
      simp only [st, htk]
      rw [show ((0 : Int) != 0) = false from rfl, cond_false, decide_eq_false (show ¬ ((k : Nat) : Int) > ((x : Nat) : Int) by omega), cond_false, show (got.length == got.length * 1) = true from beq_iff_eq.2 (by omega), decide_eq_true (by omega), decide_eq_true (by omega), Bool.and_self, Bool.and_self, cond_true, any_inc pre x (by omega), show got.length + k = (got ++ rest.take k).length by rw [List.length_append, htk]]
      have ea : got ++ rest = (got ++ rest.take k) ++ rest.drop k := by rw [List.append_assoc, List.take_append_drop]
      have := ih (got ++ rest.take k) (rest.drop k) lost (by rw [List.length_append, htk, hdk]; omega)
      rw [← ea] at this
      exact this
theorem p71_is {M : Nat} (hM : 1000 < M) {l : List (List Int)} {t : List Nat} (ht : bel 256 t) : p71 f84 h86 h87 h88 h89 f23 h90 h91 M l (nI t) = some true := by
  unfold p71
  rw [nI_len]
  by_cases h1 : 30 < l.length
  · rw [decide_eq_true (by omega), cond_true]; rfl
  rw [decide_eq_false (by omega), cond_false]
  by_cases h2 : 60 < t.length
  · rw [decide_eq_true (by omega), cond_true]; rfl
  rw [decide_eq_false (by omega), cond_false]
  refine L71_0_is (N := M) (fun all ha => ?_) l [] [] M (by omega) (by simp; omega) (by simp; omega)
  rw [nI_len]
  refine L71_1_is (N := M) (S := all.length) (by omega) (fun got rest lost hi => ?_) t [] [] all 0 M (by omega) (by simp; omega) ht (by simp)
  have hl : (got ++ rest).length = got.length + rest.length := List.length_append
  have w1 := h90_1 (s := false) (x1 := 0) (x2 := 0) (x3 := 0) (x4 := 0) (x5 := 0) (x6 := 0) (x7 := 0) (x8 := 0) (x9 := 0) (x10 := 0) (x11 := 0) (x12 := 0) (x13 := 0) (x14 := 0) (x15 := 0) (x16 := 0) (x17 := 0) (x18 := 0) (x19 := 0) (x20 := 0) (x21 := 0) (x22 := 0) (x23 := 0) (x24 := 0) (x25 := 0) (x26 := 0) (x27 := 0) (x28 := 0) (x29 := 0) (x30 := 0) (x31 := 0) (x32 := 0) (b0 := []) (b1 := rest) (p0 := 0) (t0 := 0) (l0 := 0) (p1 := ((all.length : Nat) : Int)) (t1 := ((got.length : Nat) : Int)) (l1 := ((lost : Nat) : Int)) (by omega)
  have w2 := h91_1 (s := false) (x1 := 0) (x2 := 0) (x3 := 0) (x4 := 0) (x5 := 0) (x6 := 0) (x7 := 0) (x8 := 0) (x9 := 0) (x10 := 0) (x11 := 0) (x12 := 0) (x13 := 0) (x14 := 0) (x15 := 0) (x16 := 0) (x17 := 0) (x18 := 0) (x19 := 0) (x20 := 0) (x21 := 0) (x22 := 0) (x23 := 0) (x24 := 0) (x25 := 0) (x26 := 0) (x27 := 0) (x28 := 0) (x29 := 0) (x30 := 0) (x31 := 0) (x32 := 0) (b0 := []) (b1 := rest) (p0 := 0) (t0 := 0) (l0 := 0) (p1 := ((all.length : Nat) : Int)) (t1 := ((got.length : Nat) : Int)) (l1 := ((lost : Nat) : Int)) (by omega)
  have w3 := h91_0 (s := false) (x1 := 0) (x2 := 0) (x3 := 0) (x4 := 0) (x5 := 0) (x6 := 0) (x7 := 0) (x8 := 0) (x9 := 0) (x10 := 0) (x11 := 0) (x12 := 0) (x13 := 0) (x14 := 0) (x15 := 0) (x16 := 0) (x17 := 0) (x18 := 0) (x19 := 0) (x20 := 0) (x21 := 0) (x22 := 0) (x23 := 0) (x24 := 0) (x25 := 0) (x26 := 0) (x27 := 0) (x28 := 0) (x29 := 0) (x30 := 0) (x31 := 0) (x32 := 0) (b0 := []) (b1 := rest) (p0 := 0) (t0 := 0) (l0 := 0) (p1 := ((all.length : Nat) : Int)) (t1 := ((got.length : Nat) : Int)) (l1 := ((lost : Nat) : Int)) (by simp)
  have w4 := h89_1 (s := false) (x1 := 0) (x2 := 0) (x3 := 0) (x4 := 0) (x5 := 0) (x6 := 0) (x7 := 0) (x8 := 0) (x9 := 0) (x10 := 0) (x11 := 0) (x12 := 0) (x13 := 0) (x14 := 0) (x15 := 0) (x16 := 0) (x17 := 0) (x18 := 0) (x19 := 0) (x20 := 0) (x21 := 0) (x22 := 0) (x23 := 0) (x24 := 0) (x25 := 0) (x26 := 0) (x27 := 0) (x28 := 0) (x29 := 0) (x30 := 0) (x31 := 0) (x32 := 0) (b0 := []) (b1 := rest) (p0 := 0) (t0 := 0) (l0 := 0) (p1 := ((all.length : Nat) : Int)) (t1 := ((got.length : Nat) : Int)) (l1 := ((lost : Nat) : Int))
  have tk : List.take got.length (List.drop 0 (got ++ rest)) = got := by rw [List.drop_zero, List.take_left]
  have tg : List.take got.length (List.drop 0 got) = got := by rw [List.drop_zero, List.take_length]
  have dk : List.take (got.length + rest.length - got.length) (List.drop (0 + got.length * 1) (got ++ rest)) = rest := by
    rw [Nat.mul_one, Nat.zero_add, List.drop_left, List.take_of_length_le (by omega)]
  have f1 : f23 got got = some true := f23_same (by omega)
  have f2 : f23 rest rest = some true := f23_same (by omega)
  have e1 : iadd .i64 ((got.length : Nat) : Int) ((lost : Nat) : Int) = ((got.length + lost : Nat) : Int) := addn (by omega)
  have e2 : iadd .i64 ((got.length + lost : Nat) : Int) ((rest.length : Nat) : Int) = ((all.length : Nat) : Int) := by rw [← hi]; exact addn (by omega)
  simp only [w4, w1, w2, w3, st, tk, tg, hl, Int.toNat_natCast, dk, f1, f2, e1, e2, List.length_nil]
  rw [decide_eq_true (show (0 : Int) ≤ ((got.length : Nat) : Int) by omega), decide_eq_true (show ((got.length : Nat) : Int) ≤ ((got.length + rest.length : Nat) : Int) by omega), Bool.and_self, cond_true, decide_eq_true (show 0 + got.length * 1 ≤ got.length by omega), cond_true, decide_eq_true (show 0 + got.length * 1 ≤ got.length + rest.length by omega), cond_true, cond_true, cond_true, decide_eq_true (show 0 + got.length * 1 + (got.length + rest.length - got.length) * 1 ≤ got.length + rest.length by omega), cond_true, cond_true]
  simp only [beq_self_eq_true, cond_true, show (((0 : Nat) : Int) == 0) = true from rfl, f84]
def f71 (l : List (List Int)) (t : List Int) := p71 f84 h86 h87 h88 h89 f23 h90 h91 20000 l t
theorem E71 : EntOK FT XT 71 (en71 f71) := ok71 f84 h86 h87 h88 h89 f23 h90 h91 E84 E23 R86 R87 R88 R89 R90 R91 fun _ _ _ h => ⟨20000, h⟩
theorem wf8s : ∀ {l : List Int}, (∀ x ∈ l, (Lit.int .u8 x).wf = true) → ∃ r : List Nat, l = nI r ∧ bel 256 r
  | [], _ => ⟨[], rfl, fun x hx => by cases hx⟩
  | a :: t, h => by
    obtain ⟨r, rfl, hr⟩ := wf8s (l := t) (fun x hx => h x (List.mem_cons_of_mem _ hx))
    obtain ⟨h1, h2⟩ := wf_u (k := .u8) rfl (h a (by simp))
    obtain ⟨n, rfl⟩ : ∃ n : Nat, a = (n : Int) := ⟨a.toNat, by omega⟩
    refine ⟨n :: r, rfl, fun x hx => ?_⟩
    rcases List.mem_cons.1 hx with rfl | hx
    · have : (x : Int) < 256 := h2; omega
    · exact hr x hx
theorem law71 (z0 : List (List Int)) (z1 : List Int) (h0 : okD (Sh.sl (Sh.sl (Sh.int .u8))) z0) (h1 : okD (Sh.sl (Sh.int .u8)) z1) : Ans FT XT 71 (encL [Sh.sl (Sh.sl (Sh.int .u8)), Sh.sl (Sh.int .u8)] (z0, (z1, ()))) [] (.bool true) [] := by
  obtain ⟨t, rfl, ht⟩ := wf8s h1.2
  exact E71.2 (z0, (nI t, ())) true (p71_is (by decide) ht)
end Go.Proofs.YtcnkihdjenjdgaaE
