/- Chapter 01: the laws. -/
import Derived.Test.YtjkdflcccoeggaaEvC01
namespace Go.Proofs.YtjkdflcccoeggaaE
open Go
set_option linter.unusedSimpArgs false
set_option linter.unusedVariables false
set_option maxRecDepth 4000

def f18 : Option Bool := some true
theorem E18 : EntOK FT XT 18 (en18 f18) := ok18 h19 h21 h42 h47 E19 E21 E42 E47 fun r h => ⟨0, by rw [← h]; kernel_rfl⟩
theorem wf8 {x : Int} (h : (Lit.int .u8 x).wf = true) : ∃ n : Nat, x = (n : Int) ∧ n < 256 := by
  obtain ⟨h1, h2⟩ := wf_u (k := .u8) rfl h
  exact ⟨x.toNat, by omega, by have : x < 256 := h2; omega⟩
def f15 (a : List Int) (s : List UInt8) := p15 f18 h40 h41 h42 h43 f23 0 a s
theorem E15 : EntOK FT XT 15 (en15 f15) := ok15 f18 h40 h41 h42 h43 f23 E18 E40 E41 E42 E43 E23 fun _ _ _ h => ⟨0, h⟩
theorem f15_is {a : List Nat} {s : List UInt8} (ha : bel 256 a) : f15 (nI a) s = some true := by
  unfold f15 p15
  rw [nI_len]
  by_cases h1 : 300 < a.length
  · rw [decide_eq_true (by omega), cond_true]; rfl
  rw [decide_eq_false (by omega), cond_false]
  by_cases h2 : 300 < s.length
  · rw [decide_eq_true (by omega), cond_true]; rfl
  rw [decide_eq_false (by omega), cond_false]
  have hl := unS_len s
  have k : f23 (nI (unS s).1) (nI (unS s).1) = some true := f23_same (by rw [nI_len]; omega)
  simp only [h40_is (s := s) (by omega), h41_is (s := s) (by omega), h42_is ha (by omega), h43_is ha (by omega), enB, k, beq_self_eq_true, cond_true, f18]
def f16 (a b : List Int) := p16 f18 h44 h45 f1 f23 h47 0 a b
theorem E16 : EntOK FT XT 16 (en16 f16) := ok16 f18 h44 h45 f1 f23 h47 E18 E44 E45 E46 E23 E47 fun _ _ _ h => ⟨0, h⟩
theorem xor01_len {a b : List Nat} : (xor01 a b).1.length ≤ a.length := by
  unfold xor01
  by_cases h : a.length = b.length
  · rw [if_pos h]; show (zx a b).length ≤ _; rw [zx_len h]; exact Nat.le_refl _
  · rw [if_neg h]; exact Nat.zero_le _
theorem f16_is {a b : List Nat} (ha : bel 256 a) (hb : bel 256 b) : f16 (nI a) (nI b) = some true := by
  unfold f16 p16
  rw [nI_len, nI_len]
  by_cases h1 : 300 < a.length
  · rw [decide_eq_true (by omega), cond_true]; rfl
  rw [decide_eq_false (by omega), cond_false]
  by_cases h2 : 300 < b.length
  · rw [decide_eq_true (by omega), cond_true]; rfl
  rw [decide_eq_false (by omega), cond_false]
  have hl := @xor01_len a b
  have k1 : f23 (nI (xor01 a b).1) (nI (xor01 a b).1) = some true := f23_same (by rw [nI_len]; omega)
  have k2 : f23 (nI a) (nI b) = some (a == b) := f23_is (by omega)
  have k3 : f23 (nI a) (nI a) = some true := f23_same (by rw [nI_len]; omega)
  have k4 : f23 (nI b) (nI b) = some true := f23_same (by rw [nI_len]; omega)
  have j : f1 [nI a, [], nI b] = some (nI (a ++ b)) := by
    rw [f1_is (by simp) (by simp [nI_len]; omega)]; simp [nI]
  have e1 : iadd .i64 ((a.length : Nat) : Int) ((b.length : Nat) : Int) = ((a.length + b.length : Nat) : Int) := addn (by omega)
  have e2 : List.take a.length (List.drop 0 (nI (a ++ b))) = nI a := by rw [List.drop_zero, nI_take, List.take_left]
  have e3 : List.take (a.length + b.length - a.length) (List.drop (0 + a.length * 1) (nI (a ++ b))) = nI b := by
    rw [Nat.zero_add, Nat.mul_one, nI_drop, List.drop_left, List.take_of_length_le (by rw [nI_len]; omega)]
  have c1 : decide ((0 : Int) ≤ ((a.length : Nat) : Int)) = true := decide_eq_true (by omega)
  have c2 : decide (((a.length : Nat) : Int) ≤ ((a.length + b.length : Nat) : Int)) = true := decide_eq_true (by omega)
  have c3 : decide (0 + a.length * 1 ≤ a.length + b.length) = true := decide_eq_true (by omega)
  have c4 : decide (0 + a.length * 1 + (a.length + b.length - a.length) * 1 ≤ a.length + b.length) = true := decide_eq_true (by omega)
  simp only [h44_is ha hb (by omega), h45_is ha hb (by omega), j, enB, k1, k2, k3, k4, h47_is ha hb (by omega), nI_len, List.length_append, e1, e2, e3, Int.toNat_natCast, beq_self_eq_true, cond_true, c1, c2, c3, c4, Bool.and_self, f18]
/-! ### numbers laid and read -/
def leW : Nat → Nat → List Nat
  | 0, _ => []
  | w + 1, n => n % 256 :: leW w (n / 256)
def leV : List Nat → Nat
  | [] => 0
  | a :: t => a + 256 * leV t
theorem leW_len : ∀ w n, (leW w n).length = w
  | 0, _ => rfl
  | w + 1, n => by rw [leW, List.length_cons, leW_len]
theorem leW_bel : ∀ w n, bel 256 (leW w n)
  | 0, _ => fun x hx => by cases hx
  | w + 1, n => fun x hx => by
    rw [leW, List.mem_cons] at hx
    rcases hx with rfl | hx
    · omega
    · exact leW_bel w _ x hx
theorem leVW : ∀ w n, leV (leW w n) = n % 256 ^ w
  | 0, n => by rw [leW, leV, Nat.pow_zero, Nat.mod_one]
  | w + 1, n => by rw [leW, leV, leVW w, Nat.pow_succ, Nat.mul_comm (256 ^ w), Nat.mod_mul]
theorem L21_is {N : Nat} {q : Int → Option (Int × Int)} : ∀ (t p : List Nat) (acc fuel : Nat), t.length < fuel → bel 256 t → p.length + t.length ≤ 8 → acc < 2 ^ (8 * p.length) →
    L21_0 N q fuel true (acc : Int) (nI (p ++ t)) (((p ++ t).length : Nat) : Int) ((p.length : Nat) : Int) = q ((acc + leV t * 2 ^ (8 * p.length) : Nat) : Int)
  | [], p, acc, fuel + 1, _, _, _, _ => by
    rw [L21_0, end_lt, cond_false, leV, Nat.zero_mul, Nat.add_zero]
  | x :: t, p, acc, fuel + 1, hf, ht, hn, hc => by
    rw [List.length_cons] at hn
    have hx : x < 256 := ht x (by simp)
    have hp : 2 ^ (8 * p.length) ≤ 2 ^ 56 := Nat.pow_le_pow_right (by omega) (by omega)
    have hxp : x * 2 ^ (8 * p.length) ≤ 255 * 2 ^ (8 * p.length) := Nat.mul_le_mul_right _ (by omega)
    have hs : 2 ^ (8 * (p ++ [x]).length) = 256 * 2 ^ (8 * p.length) := by rw [snoc_len, Nat.mul_add, Nat.pow_add, Nat.mul_comm]
    have ih := L21_is (N := N) (q := q) t (p ++ [x]) (acc + x * 2 ^ (8 * p.length)) fuel (by simpa using hf) (fun z hz => ht z (by simp [hz])) (by rw [snoc_len]; omega) (by rw [hs]; omega)
    rw [← snoc_app p t x] at ih
    have e1 : imul .i64 8 ((p.length : Nat) : Int) = ((8 * p.length : Nat) : Int) := muln (a := 8) (by omega)
    rw [L21_0, mid_lt, cond_true, geti_mid]
    simp only [cond_true, e1]
    rw [decide_eq_false (show ¬ ((8 * p.length : Nat) : Int) < 0 by omega), cond_false, w64 (by omega), shl64 (by omega), Nat.mod_eq_of_lt (by omega), or64 (by omega) (by omega), Nat.or_comm, or8 _ hc, Nat.add_comm, inc_mid p x (by omega), ih]
    congr 2
    rw [hs, leV, Nat.add_mul, Nat.add_assoc]
    congr 1
    rw [Nat.mul_comm 256 (leV t), Nat.mul_assoc]
theorem h21_le {l : List Nat} (hl : bel 256 l) (h1 : 1 ≤ l.length) (h8 : l.length ≤ 8) : h21 (nI l) true = some (((leV l : Nat) : Int), 0) := by
  unfold h21 p21
  rw [nI_len, decide_eq_false (by omega), decide_eq_false (by omega), cond_false, cond_false]
  refine (L21_is (N := 20) l [] 0 20 (by omega) hl (by simpa using h8) (by decide)).trans ?_
  simp
theorem h19_w1 (x : Int) : h19 x 1 true = some ([lay x 0], 0) := by kernel_rfl
theorem h19_w2 (x : Int) : h19 x 2 true = some ([lay x 0, lay x 1], 0) := by kernel_rfl
theorem h19_w3 (x : Int) : h19 x 3 true = some ([lay x 0, lay x 1, lay x 2], 0) := by kernel_rfl
theorem h19_w4 (x : Int) : h19 x 4 true = some ([lay x 0, lay x 1, lay x 2, lay x 3], 0) := by kernel_rfl
theorem h19_w5 (x : Int) : h19 x 5 true = some ([lay x 0, lay x 1, lay x 2, lay x 3, lay x 4], 0) := by kernel_rfl
theorem h19_w6 (x : Int) : h19 x 6 true = some ([lay x 0, lay x 1, lay x 2, lay x 3, lay x 4, lay x 5], 0) := by kernel_rfl
theorem h19_w7 (x : Int) : h19 x 7 true = some ([lay x 0, lay x 1, lay x 2, lay x 3, lay x 4, lay x 5, lay x 6], 0) := by kernel_rfl
theorem put_le {w : Nat} (n : Nat) (h1 : 1 ≤ w) (h8 : w ≤ 8) : h19 (n : Int) (w : Int) true = some (nI (leW w n), 0) := by
  have l0 := lay_is n (show 0 ≤ 8 by omega)
  have l1 := lay_is n (show 1 ≤ 8 by omega)
  have l2 := lay_is n (show 2 ≤ 8 by omega)
  have l3 := lay_is n (show 3 ≤ 8 by omega)
  have l4 := lay_is n (show 4 ≤ 8 by omega)
  have l5 := lay_is n (show 5 ≤ 8 by omega)
  have l6 := lay_is n (show 6 ≤ 8 by omega)
  have l7 := lay_is n (show 7 ≤ 8 by omega)
  rcases (show w = 1 ∨ w = 2 ∨ w = 3 ∨ w = 4 ∨ w = 5 ∨ w = 6 ∨ w = 7 ∨ w = 8 by omega) with rfl | rfl | rfl | rfl | rfl | rfl | rfl | rfl
  · refine (h19_w1 _).trans ?_; simp [l0, l1, l2, l3, l4, l5, l6, l7, leW, nI, Nat.div_div_eq_div_mul]
  · refine (h19_w2 _).trans ?_; simp [l0, l1, l2, l3, l4, l5, l6, l7, leW, nI, Nat.div_div_eq_div_mul]
  · refine (h19_w3 _).trans ?_; simp [l0, l1, l2, l3, l4, l5, l6, l7, leW, nI, Nat.div_div_eq_div_mul]
  · refine (h19_w4 _).trans ?_; simp [l0, l1, l2, l3, l4, l5, l6, l7, leW, nI, Nat.div_div_eq_div_mul]
  · refine (h19_w5 _).trans ?_; simp [l0, l1, l2, l3, l4, l5, l6, l7, leW, nI, Nat.div_div_eq_div_mul]
  · refine (h19_w6 _).trans ?_; simp [l0, l1, l2, l3, l4, l5, l6, l7, leW, nI, Nat.div_div_eq_div_mul]
  · refine (h19_w7 _).trans ?_; simp [l0, l1, l2, l3, l4, l5, l6, l7, leW, nI, Nat.div_div_eq_div_mul]
  · refine (h19_le8 _).trans ?_; simp [l0, l1, l2, l3, l4, l5, l6, l7, leW, nI, Nat.div_div_eq_div_mul]
theorem put_out {x w : Int} (h : ¬ (1 ≤ w ∧ w ≤ 8)) : h19 x w true = some ([], 1) := by
  unfold h19 p19
  by_cases h1 : w < 1
  · rw [decide_eq_true h1, cond_true]
  · rw [decide_eq_false h1, decide_eq_true (by omega), cond_false, cond_true]
theorem h21_nil : h21 [] true = some (0, 1) := by kernel_rfl
def f17 (n w : Int) (p : List Int × List Int) := p17 f18 h19 h21 h44 h42 h40 f23 0 n w p
theorem E17 : EntOK FT XT 17 (en17 f17) := ok17 f18 h19 h21 h44 h42 h40 f23 E18 E19 E21 E44 E42 E40 E23 fun _ _ _ _ h => ⟨0, h⟩
theorem f17_is {n : Nat} {w : Int} {a b : List Nat} (hn : n < 2 ^ 64) (ha : bel 256 a) (hb : bel 256 b) : f17 (n : Int) w (nI a, nI b) = some true := by
  unfold f17 p17
  simp only [nI_len]
  by_cases h1 : 300 < a.length
  · rw [decide_eq_true (by omega), cond_true]; rfl
  rw [decide_eq_false (by omega), cond_false]
  by_cases h2 : 300 < b.length
  · rw [decide_eq_true (by omega), cond_true]; rfl
  rw [decide_eq_false (by omega), cond_false]
  have k3 := h42_is ha (by omega)
  have k4 : h40 (hexS a) = some (nI a, 0) := by rw [h40_is (by rw [hexS_len]; omega), unS_hex ha]; rfl
  have k5 : f23 (nI a) (nI a) = some true := f23_same (by rw [nI_len]; omega)
  have t : ∃ (z z' : List Int) (e e' : Int), h44 (nI a) (nI b) = some (z, e) ∧ h44 z (nI b) = some (z', e') ∧ ((e != 0) = false → z' = nI a ∧ e' = 0) := by
    have k1 := h44_is ha hb (by omega)
    by_cases h : a.length = b.length
    · have x1 : xor01 a b = (zx a b, 0) := if_pos h
      have x2 : xor01 (zx a b) b = (zx (zx a b) b, 0) := if_pos (by rw [zx_len h, h])
      rw [zx_back h] at x2
      rw [x1] at k1
      have k2 := h44_is (a := zx a b) (b := b) (zx_bel ha hb) hb (by rw [zx_len h]; omega)
      rw [x2] at k2
      exact ⟨_, _, _, _, k1, k2, fun _ => ⟨rfl, rfl⟩⟩
    · have x1 : xor01 a b = ([], 1) := if_neg h
      rw [x1] at k1
      have k2 := h44_is (a := []) (b := b) (fun x hx => by cases hx) hb (by simp)
      exact ⟨_, _, _, _, k1, k2, fun e => by cases e⟩
  obtain ⟨z, z', e, e', t1, t2, t3⟩ := t
  by_cases hw : 1 ≤ w ∧ w ≤ 8
  · obtain ⟨k, rfl⟩ : ∃ k : Nat, w = (k : Int) := ⟨w.toNat, by omega⟩
    have w1 : 1 ≤ k := by omega
    have w8 : k ≤ 8 := by omega
    have g1 := put_le n w1 w8
    have g2 := h21_le (leW_bel k n) (by rw [leW_len]; omega) (by rw [leW_len]; omega)
    rw [leVW] at g2
    have g3 : (nI (leW k n)).length = k := by rw [nI_len, leW_len]
    simp only [g1, g2, g3, t1, t2, k3, k4, k5, beq_self_eq_true, bne_self_eq_false, cond_true, cond_false]
    by_cases h8 : k = 8
    · subst h8
      rw [show (((8 : Nat) : Int) == 8) = true from rfl, cond_true, Nat.mod_eq_of_lt (show n < 256 ^ 8 by omega), bne_self_eq_false, cond_false, decide_eq_false (by omega), cond_false]
      cases he : (e != 0)
      · obtain ⟨rfl, rfl⟩ := t3 he
        simp only [k5, cond_true, cond_false, beq_self_eq_true, f18]
      · simp only [cond_true, f18]
    · rw [beq_eq_false_iff_ne.2 (show ((k : Nat) : Int) ≠ 8 by omega), cond_false, decide_eq_true (by omega), cond_true, show imul .i64 8 ((k : Nat) : Int) = ((8 * k : Nat) : Int) from muln (a := 8) (by omega), decide_eq_false (show ¬ ((8 * k : Nat) : Int) < 0 by omega), cond_false]
      have hp : 2 ^ (8 * k) ≤ 2 ^ 56 := Nat.pow_le_pow_right (by omega) (by omega)
      have hp0 : 0 < 2 ^ (8 * k) := Nat.two_pow_pos _
      have hs : ishl .u64 1 ((8 * k : Nat) : Int) = ((2 ^ (8 * k) : Nat) : Int) := by
        have := shl64 (a := 1) (n := 8 * k) (by omega)
        rw [Nat.one_mul, Nat.mod_eq_of_lt (by omega)] at this
        exact this
      have h256 : 256 ^ k = 2 ^ (8 * k) := by rw [Nat.pow_mul]
      rw [hs, beq_eq_false_iff_ne.2 (show ((2 ^ (8 * k) : Nat) : Int) ≠ 0 by omega), cond_false, irem_n, h256, bne_self_eq_false, cond_false]
      cases he : (e != 0)
      · obtain ⟨rfl, rfl⟩ := t3 he
        simp only [k5, cond_true, cond_false, beq_self_eq_true, f18]
      · simp only [cond_true, f18]
  · simp only [put_out hw, h21_nil, t1, t2, k3, k4, k5, show ((1 : Int) == 0) = false from rfl, cond_false]
    cases he : (e != 0)
    · obtain ⟨rfl, rfl⟩ := t3 he
      simp only [k5, cond_true, cond_false, beq_self_eq_true, f18]
    · simp only [cond_true, cond_false, beq_self_eq_true, f18]
theorem law15 (z0 : List Int) (z1 : List UInt8) (h0 : okD (Sh.sl (Sh.int .u8)) z0) (h1 : okD Sh.str z1) : Ans FT XT 15 (encL [Sh.sl (Sh.int .u8), Sh.str] (z0, (z1, ()))) [] (.bool true) [] := by
  obtain ⟨a, rfl, ha⟩ := wf8s h0.2
  exact E15.2 (nI a, (z1, ())) true (f15_is ha)
theorem law16 (z0 z1 : List Int) (h0 : okD (Sh.sl (Sh.int .u8)) z0) (h1 : okD (Sh.sl (Sh.int .u8)) z1) : Ans FT XT 16 (encL [Sh.sl (Sh.int .u8), Sh.sl (Sh.int .u8)] (z0, (z1, ()))) [] (.bool true) [] := by
  obtain ⟨a, rfl, ha⟩ := wf8s h0.2
  obtain ⟨b, rfl, hb⟩ := wf8s h1.2
  exact E16.2 (nI a, (nI b, ())) true (f16_is ha hb)
theorem law17 (z0 z1 : Int) (z2 : List Int × List Int) (h0 : okD (Sh.int .u64) z0) (h1 : okD (Sh.int .i64) z1) (h2 : okD (Sh.st (Sh.pr (Sh.sl (Sh.int .u8)) (Sh.sl (Sh.int .u8)))) z2) : Ans FT XT 17 (encL [Sh.int .u64, Sh.int .i64, Sh.st (Sh.pr (Sh.sl (Sh.int .u8)) (Sh.sl (Sh.int .u8)))] (z0, (z1, (z2, ())))) [] (.bool true) [] := by
  obtain ⟨p, q⟩ := z2
  obtain ⟨k1, k2⟩ := wf_u (k := .u64) rfl h0
  obtain ⟨a, rfl, ha⟩ := wf8s h2.1.2
  obtain ⟨b, rfl, hb⟩ := wf8s h2.2.2
  obtain ⟨n, rfl⟩ : ∃ n : Nat, z0 = (n : Int) := ⟨z0.toNat, by omega⟩
  have hn : (n : Int) < 18446744073709551616 := k2
  exact E17.2 ((n : Int), (z1, ((nI a, nI b), ()))) true (f17_is (by omega) ha hb)
end Go.Proofs.YtjkdflcccoeggaaE
