/- The reference's rows of digits, by value. -/
import Derived.Test.YtilhmbjcpflodaaEvR3
namespace Go.Proofs.YtilhmbjcpflodaaE
open Go
set_option linter.unusedSimpArgs false
set_option linter.unusedVariables false
theorem addn {a b : Nat} (h : a + b < 2 ^ 62) : iadd .i64 (a : Int) (b : Int) = ((a + b : Nat) : Int) := by rw [iadd_i (by omega) (by omega)]; omega
theorem addu {a b : Nat} (h : a + b < 2 ^ 64) : iadd .u64 (a : Int) (b : Int) = ((a + b : Nat) : Int) := by
  rw [iadd_u .u64 rfl, show (2 ^ IntKind.u64.bits : Nat) = 2 ^ 64 from rfl, Nat.mod_eq_of_lt h]
theorem mulu {a b : Nat} (h : a * b < 2 ^ 64) : imul .u64 (a : Int) (b : Int) = ((a * b : Nat) : Int) := by
  unfold imul
  rw [show (a : Int) * (b : Int) = ((a * b : Nat) : Int) by norm_cast]
  exact wrap_u .u64 rfl (by omega) (by exact_mod_cast h)
theorem mulu_mod (a b : Nat) : imul .u64 (a : Int) (b : Int) = ((a * b % 2 ^ 64 : Nat) : Int) := by
  unfold imul
  rw [show (a : Int) * (b : Int) = ((a * b : Nat) : Int) by norm_cast, wrap_u64]; norm_cast
theorem quou {a b : Nat} (h : a < 2 ^ 64) : iquo .u64 (a : Int) (b : Int) = ((a / b : Nat) : Int) := by
  unfold iquo
  rw [Int.tdiv_eq_ediv_of_nonneg (by omega), show (a : Int) / (b : Int) = ((a / b : Nat) : Int) by norm_cast]
  exact wrap_u .u64 rfl (by exact_mod_cast Nat.zero_le _) (by
    have := Nat.div_le_self a b
    have h2 : a / b < 2 ^ 64 := by omega
    exact_mod_cast h2)
/-- a digit; nought beyond them -/
def G (l : List Nat) (j : Nat) : Nat := (l[j]?).getD 0
/-- the value of the first m digits -/
def vl (l : List Nat) : Nat → Nat
  | 0 => 0
  | m + 1 => vl l m + G l m * 65536 ^ m
def D (l : List Nat) : Prop := ∀ j, G l j < 65536
theorem G_get {l : List Nat} {j : Nat} (h : j < l.length) : l[j] = G l j := by unfold G; rw [List.getElem?_eq_getElem h]; rfl
theorem G_out {l : List Nat} {j : Nat} (h : l.length ≤ j) : G l j = 0 := by unfold G; rw [List.getElem?_eq_none h]; rfl
theorem G_set {l : List Nat} {j : Nat} (h : j < l.length) (y i : Nat) : G (l.set j y) i = if i = j then y else G l i := by
  unfold G
  rw [List.getElem?_set]
  by_cases e : j = i
  · subst e; simp [h]
  · rw [if_neg e, if_neg (fun g => e g.symm)]
theorem D_set {l : List Nat} {j y : Nat} (h : j < l.length) (hy : y < 65536) (hd : D l) : D (l.set j y) := by
  intro i
  rw [G_set h]
  split
  · exact hy
  · exact hd i
theorem V_congr {l r : List Nat} : ∀ {m : Nat}, (∀ j, j < m → G l j = G r j) → vl l m = vl r m
  | 0, _ => rfl
  | m + 1, h => by rw [vl, vl, V_congr (fun j hj => h j (by omega)), h m (by omega)]
theorem V_lt {l : List Nat} (h : D l) : ∀ m, vl l m < 65536 ^ m
  | 0 => by simp [vl]
  | m + 1 => by
    have h1 := V_lt h m
    have h2 := h m
    have h3 : (G l m + 1) * 65536 ^ m ≤ 65536 * 65536 ^ m := Nat.mul_le_mul_right _ (by omega)
    rw [vl, Nat.pow_succ]
    rw [Nat.add_mul] at h3
    omega
theorem V_set {l : List Nat} {j : Nat} (h : j < l.length) (y : Nat) : ∀ {m : Nat}, j < m → vl (l.set j y) m + G l j * 65536 ^ j = vl l m + y * 65536 ^ j
  | 0, h2 => by omega
  | m + 1, h2 => by
    rw [vl, vl, G_set h]
    by_cases e : m = j
    · subst e
      rw [if_pos rfl, V_congr (l := l.set m y) (r := l) (fun i hi => by rw [G_set h, if_neg (by omega)])]
      omega
    · have := V_set h y (m := m) (by omega)
      rw [if_neg e]
      omega
theorem V_long {l : List Nat} : ∀ {m : Nat}, l.length ≤ m → vl l m = vl l l.length
  | 0, h => by rw [show l.length = 0 by omega]
  | m + 1, h => by
    by_cases e : l.length = m + 1
    · rw [e]
    · rw [vl, G_out (by omega), V_long (show l.length ≤ m by omega)]; omega
theorem G_app {l : List Nat} (x j : Nat) : G (l ++ [x]) j = if j = l.length then x else G l j := by
  unfold G
  by_cases h : j < l.length
  · rw [List.getElem?_append_left h, if_neg (by omega)]
  · rw [List.getElem?_append_right (by omega)]
    by_cases e : j = l.length
    · subst e; simp
    · rw [if_neg e, List.getElem?_eq_none (by simp; omega), List.getElem?_eq_none (by omega)]
theorem V_app (l : List Nat) (x : Nat) : vl (l ++ [x]) (l ++ [x]).length = vl l l.length + x * 65536 ^ l.length := by
  rw [List.length_append, List.length_singleton, vl, G_app, if_pos rfl, V_congr (l := l ++ [x]) (r := l) (fun j hj => by rw [G_app, if_neg (by omega)])]
theorem nI_set (l : List Nat) (j y : Nat) : (nI l).set j (y : Int) = nI (l.set j y) := by unfold nI; rw [List.map_set]
theorem getn {l : List Nat} {i : Nat} (h : i < l.length) : (nI l)[i]? = some ((G l i : Nat) : Int) := by rw [nI_getn h, G_get h]
theorem L118_in (N : Nat) (q : List Int → List Int → Nat → Nat → Int → Int → List Int → Option (List Int)) (a b : List Nat) (L i v10 : Nat) (hi : i < a.length) (ha : D a) (hb : D b) (hL : i + b.length < L) (hL2 : L < 2 ^ 30) :
    ∀ d k fuel (out : List Nat) (carry : Nat), k + d = b.length → d < fuel → out.length = L → D out → carry < 65536 →
    ∃ (out' : List Nat) (carry' : Nat), out'.length = L ∧ D out' ∧ carry' < 65536 ∧ (∀ j, i + b.length ≤ j → G out' j = G out j) ∧
      vl out' L + carry' * 65536 ^ (i + b.length) + G a i * vl b k * 65536 ^ i = vl out L + carry * 65536 ^ (i + k) + G a i * vl b b.length * 65536 ^ i ∧
      L118_1 N q fuel (nI a) (nI b) L v10 (i : Int) (carry : Int) (k : Int) (nI out) = q (nI a) (nI b) L v10 (i : Int) (carry' : Int) (nI out') := by
  intro d
  induction d with
  | zero =>
    intro k fuel out carry hk hf ho hd hc
    obtain ⟨m, rfl⟩ : ∃ m, fuel = m + 1 := ⟨fuel - 1, by omega⟩
    obtain rfl : k = b.length := by omega
    refine ⟨out, carry, ho, hd, hc, fun _ _ => rfl, rfl, ?_⟩
    simp only [L118_1, nI_len, show ¬ (((b.length : Nat) : Int) < ((b.length : Nat) : Int)) by omega, decide_false, cond_false]
  | succ d ih =>
    intro k fuel out carry hk hf ho hd hc
    obtain ⟨m, rfl⟩ : ∃ m, fuel = m + 1 := ⟨fuel - 1, by omega⟩
    have hx := ha i
    have hy := hb k
    have hz := hd (i + k)
    have hxy : G a i * G b k ≤ 65535 * 65535 := Nat.mul_le_mul (by omega) (by omega)
    generalize hs : G out (i + k) + G a i * G b k + carry = s
    have hs2 : s < 65536 * 65536 := by omega
    obtain ⟨out', carry', h1, h2, h3, h4, h5, h6⟩ := ih (k + 1) m (out.set (i + k) (s % 65536)) (s / 65536) (by omega) (by omega) (by rw [List.length_set]; exact ho) (D_set (by omega) (Nat.mod_lt _ (by omega)) hd) (by omega)
    refine ⟨out', carry', h1, h2, h3, fun j hj => by rw [h4 j hj, G_set (by omega), if_neg (by omega)], ?_, ?_⟩
    · have e3 := V_set (l := out) (j := i + k) (by omega) (s % 65536) (m := L) (by omega)
      have e1 : G a i * vl b (k + 1) * 65536 ^ i = G a i * vl b k * 65536 ^ i + G a i * G b k * 65536 ^ (i + k) := by
        rw [vl, Nat.mul_add, Nat.add_mul, Nat.pow_add]
        congr 1
        rw [Nat.mul_assoc, Nat.mul_assoc, Nat.mul_assoc, Nat.mul_comm (65536 ^ k)]
      have e2 : s / 65536 * 65536 ^ (i + (k + 1)) + s % 65536 * 65536 ^ (i + k) = G out (i + k) * 65536 ^ (i + k) + G a i * G b k * 65536 ^ (i + k) + carry * 65536 ^ (i + k) := by
        rw [← Nat.add_mul, ← Nat.add_mul, hs, show i + (k + 1) = (i + k) + 1 by omega, Nat.pow_succ, ← Nat.mul_assoc, Nat.mul_right_comm, ← Nat.add_mul]
        congr 1
        omega
      omega
    · have hik : iadd .i64 (i : Int) (k : Int) = ((i + k : Nat) : Int) := addn (by omega)
      have hm : imul .u64 ((G a i : Nat) : Int) ((G b k : Nat) : Int) = ((G a i * G b k : Nat) : Int) := mulu (by omega)
      have h7 : iadd .u64 ((G out (i + k) : Nat) : Int) ((G a i * G b k : Nat) : Int) = ((G out (i + k) + G a i * G b k : Nat) : Int) := addu (by omega)
      have h8 : iadd .u64 ((G out (i + k) + G a i * G b k : Nat) : Int) (carry : Int) = (s : Int) := by rw [addu (by omega), hs]
      simp only [L118_1, nI_len, show ((k : Int) < ((b.length : Nat) : Int)) by omega, hik, show (0 : Int) ≤ ((i + k : Nat) : Int) by omega, show ((i + k : Nat) : Int) < (L : Int) by omega, decide_true, Bool.and_self, cond_true, Int.toNat_natCast, Nat.mul_one, Nat.zero_add, getn (show i + k < out.length by omega), geti_nat, getn hi, getn (show k < b.length by omega), show i + k < out.length by omega, hm, h7, h8]
      rw [show ((65536 : Int)) = ((65536 : Nat) : Int) from rfl, quou (by omega), irem_n, nI_set, up1 (by omega)]
      exact h6
theorem L118_out (N : Nat) (q : Nat → Nat → List Int → Option (List Int)) (a b : List Nat) (L : Nat) (ha : D a) (hb : D b) (hL : L = a.length + b.length + 1) (hL2 : L < 2 ^ 30) (hN : b.length < N) :
    ∀ d i fuel (out : List Nat), i + d = a.length → d < fuel → out.length = L → D out → (∀ j, i + b.length ≤ j → G out j = 0) →
    ∃ out' : List Nat, out'.length = L ∧ D out' ∧ vl out' L + vl a i * vl b b.length = vl out L + vl a a.length * vl b b.length ∧
      L118_0 N q fuel (nI a) (nI b) L L (i : Int) (nI out) = q L L (nI out') := by
  intro d
  induction d with
  | zero =>
    intro i fuel out hk hf ho hd hz
    obtain ⟨m, rfl⟩ : ∃ m, fuel = m + 1 := ⟨fuel - 1, by omega⟩
    obtain rfl : i = a.length := by omega
    refine ⟨out, ho, hd, rfl, ?_⟩
    simp only [L118_0, nI_len, show ¬ (((a.length : Nat) : Int) < ((a.length : Nat) : Int)) by omega, decide_false, cond_false]
  | succ d ih =>
    intro i fuel out hk hf ho hd hz
    obtain ⟨m, rfl⟩ : ∃ m, fuel = m + 1 := ⟨fuel - 1, by omega⟩
    obtain ⟨out1, carry, h1, h2, h3, h4, h5, h6⟩ := L118_in N (fun (y18 : List Int) (y19 : List Int) (y20 : Nat) (y21 : Nat) (y22 : Int) (y23 : Int) (y24 : List Int) =>
          bif ((decide ((0 : Int) ≤ (iadd .i64 y22 (((List.length y19) : Nat) : Int)))) && (decide ((iadd .i64 y22 (((List.length y19) : Nat) : Int)) < ((y20 : Nat) : Int)))) then
            match (y24)[(0 + ((Int.toNat (iadd .i64 y22 (((List.length y19) : Nat) : Int))) * 1))]? with
            | none => none
            | some x25 =>
              bif ((decide ((0 : Int) ≤ (iadd .i64 y22 (((List.length y19) : Nat) : Int)))) && (decide ((iadd .i64 y22 (((List.length y19) : Nat) : Int)) < ((y20 : Nat) : Int)))) then
                bif (decide ((0 + ((Int.toNat (iadd .i64 y22 (((List.length y19) : Nat) : Int))) * 1)) < (List.length y24))) then
                  L118_0 N q m y18 y19 y20 y21 (iadd .i64 y22 (1 : Int)) (List.set y24 (0 + ((Int.toNat (iadd .i64 y22 (((List.length y19) : Nat) : Int))) * 1)) (iadd .u64 x25 y23))
                else none
              else none
          else none) a b L i L (by omega) ha hb (by omega) hL2 b.length 0 N out 0 (by omega) (by omega) ho hd (by omega)
    have hz1 : G out1 (i + b.length) = 0 := by rw [h4 _ (Nat.le_refl _), hz _ (Nat.le_refl _)]
    obtain ⟨out', g1, g2, g3, g4⟩ := ih (i + 1) m (out1.set (i + b.length) carry) (by omega) (by omega) (by rw [List.length_set]; exact h1) (D_set (by omega) h3 h2) (fun j hj => by rw [G_set (by omega), if_neg (by omega), h4 j (by omega), hz j (by omega)])
    refine ⟨out', g1, g2, ?_, ?_⟩
    · have e1 := V_set (l := out1) (j := i + b.length) (by omega) carry (m := L) (by omega)
      rw [hz1] at e1
      have e2 : vl a (i + 1) * vl b b.length = vl a i * vl b b.length + G a i * vl b b.length * 65536 ^ i := by rw [vl, Nat.add_mul, Nat.mul_right_comm]
      have e3 : vl b 0 = 0 := rfl
      rw [e3] at h5
      omega
    · simp only [L118_0, nI_len, show ((i : Int) < ((a.length : Nat) : Int)) by omega, decide_true, cond_true]
      refine Eq.trans h6 ?_
      have hik : iadd .i64 (i : Int) ((b.length : Nat) : Int) = ((i + b.length : Nat) : Int) := addn (by omega)
      simp only [nI_len, hik, show (0 : Int) ≤ ((i + b.length : Nat) : Int) by omega, show ((i + b.length : Nat) : Int) < (L : Int) by omega, decide_true, Bool.and_self, cond_true, Int.toNat_natCast, Nat.mul_one, Nat.zero_add, getn (show i + b.length < out1.length by omega), show i + b.length < out1.length by omega, hz1]
      rw [addu (by omega), Nat.zero_add, nI_set, up1 (by omega)]
      exact g4
/-- the product -/
theorem p118_is {N : Nat} {a b : List Nat} (ha : D a) (hb : D b) (h : a.length + b.length < 2 ^ 20) (hN : a.length < N) (hN2 : b.length < N) : ∃ c : List Nat, p118 N (nI a) (nI b) = some (nI c) ∧ c.length = a.length + b.length + 1 ∧ D c ∧ vl c c.length = vl a a.length * vl b b.length := by
  have e1 : iadd .i64 ((a.length : Nat) : Int) ((b.length : Nat) : Int) = ((a.length + b.length : Nat) : Int) := addn (by omega)
  have e2 : iadd .i64 ((a.length + b.length : Nat) : Int) 1 = ((a.length + b.length + 1 : Nat) : Int) := up1 (by omega)
  have hD : D (List.replicate (a.length + b.length + 1) 0) := by
    intro j; unfold G; rw [List.getElem?_replicate]; split <;> simp
  have hG : ∀ j, G (List.replicate (a.length + b.length + 1) 0) j = 0 := by
    intro j; unfold G; rw [List.getElem?_replicate]; split <;> simp
  have hV : ∀ m, vl (List.replicate (a.length + b.length + 1) 0) m = 0 := by
    intro m
    induction m with
    | zero => rfl
    | succ m ih => rw [vl, ih, hG]; omega
  have hr : List.replicate (a.length + b.length + 1) (0 : Int) = nI (List.replicate (a.length + b.length + 1) 0) := by unfold nI; rw [List.map_replicate]; rfl
  obtain ⟨c, h1, h2, h3, h4⟩ := L118_out N (fun (y26 : Nat) (y27 : Nat) (y28 : List Int) =>
        bif (decide ((0 + (y26 * 1)) ≤ (List.length y28))) then
          some (List.take y26 (List.drop 0 y28))
        else none) a b _ ha hb rfl (by omega) hN2 a.length 0 N (List.replicate (a.length + b.length + 1) 0) (by omega) hN (by rw [List.length_replicate]) hD (fun j _ => hG j)
  refine ⟨c, ?_, h1, h2, ?_⟩
  · unfold p118
    simp only [nI_len, e1, e2, show (0 : Int) ≤ ((a.length + b.length + 1 : Nat) : Int) by omega, Int.le_refl, show ((a.length + b.length + 1 : Nat) : Int) * ((8 : Nat) : Int) ≤ 1099511627776 by omega, show ((a.length + b.length + 1 : Nat) : Int) ≤ 1099511627776 by omega, decide_true, Bool.and_self, cond_true, Int.toNat_natCast, hr]
    refine Eq.trans h4 ?_
    simp only [nI_len, Nat.mul_one, Nat.zero_add, h1, Nat.le_refl, decide_true, cond_true, List.drop_zero]
    rw [List.take_of_length_le (by rw [nI_len, h1]; exact Nat.le_refl _)]
  · rw [h1]
    rw [hV, vl, Nat.zero_mul, Nat.add_zero, Nat.zero_add] at h3
    exact h3
/-! ### digits -/
theorem L117_is (N : Nat) (q : Nat → List Int → Option (List Int)) :
    ∀ e n fuel (l : List Nat), n < 65536 ^ e → e < fuel → n < 2 ^ 64 → l.length + e < 2 ^ 20 → D l → ∃ l' : List Nat, D l' ∧ l'.length ≤ l.length + e ∧ vl l' l'.length = vl l l.length + n * 65536 ^ l.length ∧ L117_0 N q fuel (n : Int) l.length (nI l) = q l'.length (nI l') := by
  intro e
  induction e with
  | zero =>
    intro n fuel l hn hf h2 hl hd
    obtain ⟨m, rfl⟩ : ∃ m, fuel = m + 1 := ⟨fuel - 1, by omega⟩
    obtain rfl : n = 0 := by simpa using hn
    refine ⟨l, hd, by omega, by simp, ?_⟩
    simp only [L117_0, show ¬ (((0 : Nat) : Int) > 0) by omega, decide_false, cond_false]
  | succ e ih =>
    intro n fuel l hn hf h2 hl hd
    obtain ⟨m, rfl⟩ : ∃ m, fuel = m + 1 := ⟨fuel - 1, by omega⟩
    by_cases h0 : n = 0
    · subst h0
      refine ⟨l, hd, by omega, by simp, ?_⟩
      simp only [L117_0, show ¬ (((0 : Nat) : Int) > 0) by omega, decide_false, cond_false]
    · have hD : D (l ++ [n % 65536]) := by
        intro j; rw [G_app]; split
        · exact Nat.mod_lt _ (by omega)
        · exact hd j
      have hlen : (l ++ [n % 65536]).length = l.length + 1 := by simp
      obtain ⟨l', g1, g2, g3, g4⟩ := ih (n / 65536) m (l ++ [n % 65536]) (by rw [Nat.div_lt_iff_lt_mul (by omega), ← Nat.pow_succ]; exact hn) (by omega) (by omega) (by omega) hD
      refine ⟨l', g1, by omega, ?_, ?_⟩
      · rw [g3, V_app, hlen, Nat.pow_succ, Nat.mul_comm (65536 ^ l.length) 65536, ← Nat.mul_assoc, Nat.add_assoc, ← Nat.add_mul]
        congr 2
        omega
      · simp only [L117_0, show ((n : Nat) : Int) > 0 by omega, nI_len, Nat.mul_one, beq_self_eq_true, show (l.length + 1) * 8 ≤ 1099511627776 by omega, show l.length + 1 ≤ 1099511627776 by omega, decide_true, Bool.and_self, cond_true]
        rw [show ((65536 : Int)) = ((65536 : Nat) : Int) from rfl, quou h2, irem_n, show nI l ++ [((n % 65536 : Nat) : Int)] = nI (l ++ [n % 65536]) by rw [← nI_app]; rfl, ← hlen]
        exact g4
theorem p117_is {N n e : Nat} (hn : n < 65536 ^ e) (he : e < N) (h2 : n < 2 ^ 64) (he2 : e < 1000) : ∃ l : List Nat, p117 N (n : Int) = some (nI l) ∧ D l ∧ l.length ≤ e ∧ vl l l.length = n := by
  obtain ⟨l, h1, h3, h4, h5⟩ := L117_is N (fun (y4 : Nat) (y5 : List Int) =>
      bif (decide ((0 + (y4 * 1)) ≤ (List.length y5))) then
        some (List.take y4 (List.drop 0 y5))
      else none) e n N [] hn he h2 (by simp; omega) (by intro j; simp [G])
  refine ⟨l, ?_, h1, by simpa using h3, by simpa [vl] using h4⟩
  unfold p117
  refine Eq.trans h5 ?_
  simp [nI_len, List.take_of_length_le]
/-! ### above -/
theorem p119_is {N : Nat} (l : List Nat) (j : Nat) : p119 N (nI l) (j : Int) = some ((G l j : Nat) : Int) := by
  unfold p119
  by_cases h : j < l.length
  · simp only [nI_len, show (j : Int) < ((l.length : Nat) : Int) by omega, decide_true, cond_true, geti_nat, getn h]
  · simp only [nI_len, show ¬ ((j : Int) < ((l.length : Nat) : Int)) by omega, decide_false, cond_false, G_out (show l.length ≤ j by omega)]
    rfl
theorem L104_is {c119 : List Int → Int → Option Int} (F : ∀ (l : List Nat) (j : Nat), c119 (nI l) (j : Int) = some ((G l j : Nat) : Int)) (N : Nat) (a b : List Nat) (ha : D a) (hb : D b) :
    ∀ i fuel, i < fuel → i < 2 ^ 60 → L104_0 c119 N (some false) fuel (nI a) (nI b) ((i : Int) - 1) = some (decide (vl a i > vl b i)) := by
  intro i
  induction i with
  | zero =>
    intro fuel hf _
    obtain ⟨m, rfl⟩ : ∃ m, fuel = m + 1 := ⟨fuel - 1, by omega⟩
    simp [L104_0, vl]
  | succ i ih =>
    intro fuel hf h60
    obtain ⟨m, rfl⟩ : ∃ m, fuel = m + 1 := ⟨fuel - 1, by omega⟩
    rw [show ((i + 1 : Nat) : Int) - 1 = (i : Int) by omega]
    simp only [L104_0, show (i : Int) ≥ 0 by omega, decide_true, cond_true, F]
    have h1 := V_lt ha i
    have h2 := V_lt hb i
    by_cases e : G a i = G b i
    · rw [e]
      simp only [bne_self_eq_false, cond_false]
      rw [isub_i (by omega) (by omega), ih m (by omega) (by omega)]
      congr 1
      rw [vl, vl, e, decide_eq_decide]
      omega
    · simp only [show (((G a i : Nat) : Int) != ((G b i : Nat) : Int)) = true from bne_iff_ne.2 (by omega), cond_true]
      congr 1
      rw [vl, vl, decide_eq_decide]
      have hh : ∀ x y : Nat, x < y → (x + 1) * 65536 ^ i ≤ y * 65536 ^ i := fun x y h => Nat.mul_le_mul_right _ h
      constructor
      · intro h
        have := hh (G b i) (G a i) (by omega)
        rw [Nat.add_mul] at this
        omega
      · intro h
        rcases Nat.lt_or_ge (G b i) (G a i) with g | g
        · omega
        · have := hh (G a i) (G b i) (by omega)
          rw [Nat.add_mul] at this
          omega
theorem p104_is {c119 : List Int → Int → Option Int} (F : ∀ (l : List Nat) (j : Nat), c119 (nI l) (j : Int) = some ((G l j : Nat) : Int)) {N : Nat} {a b : List Nat} (ha : D a) (hb : D b) (h1 : a.length < N) (h2 : b.length < N) (h3 : N < 1000) : p104 c119 N (nI a) (nI b) = some (decide (vl a a.length > vl b b.length)) := by
  unfold p104
  simp only [nI_len]
  split
  · rw [isub_i (by omega) (by omega), L104_is F N a b ha hb b.length N h2 (by omega), V_long (show a.length ≤ b.length by omega)]
  · rw [isub_i (by omega) (by omega), L104_is F N a b ha hb a.length N h1 (by omega), V_long (show b.length ≤ a.length by omega)]
/-! ### n times a power of two -/
def K117 (c117 : Int → Option (List Int)) (e : Nat) : Prop := ∀ n : Nat, n < 2 ^ (16 * e) → ∃ l : List Nat, c117 (n : Int) = some (nI l) ∧ D l ∧ l.length ≤ e ∧ vl l l.length = n
def K118 (c118 : List Int → List Int → Option (List Int)) : Prop := ∀ a b : List Nat, D a → D b → a.length < 250 → b.length < 250 → ∃ c : List Nat, c118 (nI a) (nI b) = some (nI c) ∧ c.length = a.length + b.length + 1 ∧ D c ∧ vl c c.length = vl a a.length * vl b b.length
theorem L103_is {c117 : Int → Option (List Int)} {c118 : List Int → List Int → Option (List Int)} (F8 : K118 c118) (N : Nat) (p : Nat) (hp : p ≤ 96) :
    ∀ d i fuel (l : List Nat), i + d = p → d < fuel → D l → l.length ≤ 4 + 2 * i → ∃ l' : List Nat, L103_0 c117 c118 N (fun y => some y) fuel (p : Int) (nI l) (i : Int) = some (nI l') ∧ D l' ∧ l'.length ≤ 4 + 2 * p ∧ vl l' l'.length = vl l l.length * 2 ^ d := by
  intro d
  induction d with
  | zero =>
    intro i fuel l hd hf hD hl
    obtain ⟨m, rfl⟩ : ∃ m, fuel = m + 1 := ⟨fuel - 1, by omega⟩
    refine ⟨l, ?_, hD, by omega, by omega⟩
    obtain rfl : i = p := by omega
    simp only [L103_0, show ¬ ((i : Int) < (i : Int)) by omega, decide_false, cond_false]
  | succ d ih =>
    intro i fuel l hd hf hD hl
    obtain ⟨m, rfl⟩ : ∃ m, fuel = m + 1 := ⟨fuel - 1, by omega⟩
    obtain ⟨c, h1, h2, h3, h4⟩ := F8 l [2] hD (by intro j; unfold G; cases j <;> simp) (by omega) (by simp)
    obtain ⟨l', g1, g2, g3, g4⟩ := ih (i + 1) m c (by omega) (by omega) h3 (by rw [h2]; simp; omega)
    refine ⟨l', ?_, g2, g3, ?_⟩
    · simp only [L103_0, show (i : Int) < (p : Int) by omega, decide_true, cond_true]
      rw [show ([2] : List Int) = nI [2] from rfl, h1]
      simp only
      rw [up1 (by omega)]
      exact g1
    · rw [g4, h4, show vl [2] [2].length = 2 from rfl, Nat.pow_succ, Nat.mul_assoc, Nat.mul_comm 2]
theorem p103_is {c117 : Int → Option (List Int)} {c118 : List Int → List Int → Option (List Int)} (F7 : K117 c117 4) (F8 : K118 c118) {N n p : Nat} (hN : p < N) (hp : p ≤ 96) (hn : n < 2 ^ 64) : ∃ l : List Nat, p103 c117 c118 N (n : Int) (p : Int) = some (nI l) ∧ D l ∧ l.length ≤ 200 ∧ vl l l.length = n * 2 ^ p := by
  obtain ⟨l, h1, h2, h3, h4⟩ := F7 n hn
  obtain ⟨l', g1, g2, g3, g4⟩ := L103_is (c117 := c117) F8 N p hp p 0 N l (by omega) hN h2 (by omega)
  refine ⟨l', ?_, g2, by omega, by rw [g4, h4]⟩
  unfold p103
  rw [h1]
  exact g1
theorem L105_is {c117 : Int → Option (List Int)} {c118 : List Int → List Int → Option (List Int)} (F7 : K117 c117 4) (F8 : K118 c118) (N : Nat) (x p : Nat) (hx : x < 2 ^ 64) (hp : p ≤ 3) :
    ∀ d i fuel (l : List Nat), i + d = p → d < fuel → D l → l.length ≤ 1 + 5 * i → ∃ l' : List Nat, L105_0 c117 c118 N (fun y => some y) fuel (x : Int) (p : Int) (nI l) (i : Int) = some (nI l') ∧ D l' ∧ l'.length ≤ 1 + 5 * p ∧ vl l' l'.length = vl l l.length * x ^ d := by
  intro d
  induction d with
  | zero =>
    intro i fuel l hd hf hD hl
    obtain ⟨m, rfl⟩ : ∃ m, fuel = m + 1 := ⟨fuel - 1, by omega⟩
    refine ⟨l, ?_, hD, by omega, by simp⟩
    obtain rfl : i = p := by omega
    simp only [L105_0, show ¬ ((i : Int) < (i : Int)) by omega, decide_false, cond_false]
  | succ d ih =>
    intro i fuel l hd hf hD hl
    obtain ⟨m, rfl⟩ : ∃ m, fuel = m + 1 := ⟨fuel - 1, by omega⟩
    obtain ⟨w, w1, w2, w3, w4⟩ := F7 x hx
    obtain ⟨c, h1, h2, h3, h4⟩ := F8 l w hD w2 (by omega) (by omega)
    obtain ⟨l', g1, g2, g3, g4⟩ := ih (i + 1) m c (by omega) (by omega) h3 (by rw [h2]; omega)
    refine ⟨l', ?_, g2, g3, ?_⟩
    · simp only [L105_0, show (i : Int) < (p : Int) by omega, decide_true, cond_true, w1, h1]
      rw [up1 (by omega)]
      exact g1
    · rw [g4, h4, w4, Nat.pow_succ, Nat.mul_assoc, Nat.mul_comm x]
theorem p105_is {c117 : Int → Option (List Int)} {c118 : List Int → List Int → Option (List Int)} (F7 : K117 c117 4) (F8 : K118 c118) {N x p : Nat} (hN : p < N) (hp : p ≤ 3) (hx : x < 2 ^ 64) : ∃ l : List Nat, p105 c117 c118 N (x : Int) (p : Int) = some (nI l) ∧ D l ∧ l.length ≤ 200 ∧ vl l l.length = x ^ p := by
  obtain ⟨l', g1, g2, g3, g4⟩ := L105_is F7 F8 N x p hx hp p 0 N [1] (by omega) hN (by intro j; unfold G; cases j <;> simp) (by simp)
  refine ⟨l', ?_, g2, by omega, by rw [g4]; simp [vl, G]⟩
  unfold p105
  exact g1
/-! ### the root, bit by bit -/
theorem pow_le_iff {a b d : Nat} (hd : d ≠ 0) : a ^ d ≤ b ^ d ↔ a ≤ b := Nat.pow_le_pow_iff_left hd
theorem L76_is {c102 : Int → Int → Int → Option Bool} {c103 : Int → Int → Option (List Int)} {c105 : Int → Int → Option (List Int)} {c104 : List Int → List Int → Option Bool} (N p : Nat) (top : List Nat) (T : Nat)
    (F : ∀ x : Nat, x < 2 ^ 42 → ∃ r, c105 (x : Int) (p : Int) = some r ∧ c104 r (nI top) = some (decide (x ^ p > T))) (hp : p ≠ 0) :
    ∀ e x fuel, e + 1 < fuel → e ≤ 40 → x + 2 ^ (e + 1) ≤ 2 ^ 41 → x ^ p ≤ T → T < (x + 2 ^ (e + 1)) ^ p → ∃ y : Nat, L76_0 c102 c103 c105 c104 N (fun y => some (y, 0)) fuel (p : Int) (nI top) (x : Int) ((2 ^ e : Nat) : Int) = some ((y : Int), 0) ∧ y < 2 ^ 41 ∧ y ^ p ≤ T ∧ T < (y + 1) ^ p := by
  intro e
  induction e with
  | zero =>
    intro x fuel hf he hx h1 h2
    obtain ⟨m, rfl⟩ : ∃ m, fuel = m + 2 := ⟨fuel - 2, by omega⟩
    obtain ⟨r, r1, r2⟩ := F (x + 1) (by omega)
    have e0 : iquo .u64 ((2 ^ 0 : Nat) : Int) 2 = 0 := rfl
    have a1 : iadd .u64 (x : Int) ((2 ^ 0 : Nat) : Int) = ((x + 1 : Nat) : Int) := addu (by omega)
    by_cases hc : (x + 1) ^ p > T
    · refine ⟨x, ?_, by omega, h1, hc⟩
      simp only [L76_0, show ((2 ^ 0 : Nat) : Int) > 0 by decide, decide_true, cond_true, a1, r1, r2, hc, Bool.not_true, cond_false, e0, show ¬ ((0 : Int) > 0) by omega, decide_false]
    · refine ⟨x + 1, ?_, by omega, by omega, h2⟩
      simp only [L76_0, show ((2 ^ 0 : Nat) : Int) > 0 by decide, decide_true, cond_true, a1, r1, r2, hc, Bool.not_false, cond_false, e0, show ¬ ((0 : Int) > 0) by omega, decide_false]
  | succ e ih =>
    intro x fuel hf he hx h1 h2
    obtain ⟨m, rfl⟩ : ∃ m, fuel = m + 1 := ⟨fuel - 1, by omega⟩
    have hpow : 2 ^ (e + 1 + 1) = 2 ^ (e + 1) + 2 ^ (e + 1) := by rw [Nat.pow_succ]; omega
    have hpos : 0 < 2 ^ (e + 1) := Nat.pow_pos (by omega)
    obtain ⟨r, r1, r2⟩ := F (x + 2 ^ (e + 1)) (by omega)
    have hlt : 2 ^ (e + 1) < 2 ^ 64 := Nat.pow_lt_pow_right (by omega) (by omega)
    have e0 : iquo .u64 ((2 ^ (e + 1) : Nat) : Int) 2 = ((2 ^ e : Nat) : Int) := by
      rw [show (2 : Int) = ((2 : Nat) : Int) from rfl, quou hlt, Nat.pow_succ, Nat.mul_div_cancel _ (by omega)]
    have a1 : iadd .u64 (x : Int) ((2 ^ (e + 1) : Nat) : Int) = ((x + 2 ^ (e + 1) : Nat) : Int) := addu (by omega)
    by_cases hc : (x + 2 ^ (e + 1)) ^ p > T
    · obtain ⟨y, y1, y2⟩ := ih x m (by omega) (by omega) (by omega) h1 hc
      refine ⟨y, ?_, y2⟩
      simp only [L76_0, show ((2 ^ (e + 1) : Nat) : Int) > 0 by omega, decide_true, cond_true, a1, r1, r2, hc, Bool.not_true, cond_false, e0]
      exact y1
    · obtain ⟨y, y1, y2⟩ := ih (x + 2 ^ (e + 1)) m (by omega) (by omega) (by omega) (by omega) (by rw [Nat.add_assoc, ← hpow]; exact h2)
      refine ⟨y, ?_, y2⟩
      simp only [L76_0, show ((2 ^ (e + 1) : Nat) : Int) > 0 by omega, decide_true, cond_true, a1, r1, r2, hc, decide_false, Bool.not_false, e0]
      exact y1
def may (n d b : Int) : Prop := 0 ≤ n ∧ n ≤ 1000 ∧ (d = 2 ∨ d = 3) ∧ 0 ≤ b ∧ b ≤ 32
instance (n d b : Int) : Decidable (may n d b) := by unfold may; infer_instance
theorem p102_is (N : Nat) (n d b : Int) : p102 N n d b = some (decide (may n d b)) := by
  have e : p102 N n d b = some (decide (n ≥ 0) && (decide (n ≤ 1000) && ((d == 2 || d == 3) && (decide (b ≥ 0) && decide (b ≤ 32))))) := by
    unfold p102
    generalize decide (n ≥ 0) = x1
    generalize decide (n ≤ 1000) = x2
    generalize (d == 2) = x3
    generalize (d == 3) = x4
    generalize decide (b ≥ 0) = x5
    generalize decide (b ≤ 32) = x6
    cases x1 <;> cases x2 <;> cases x3 <;> cases x4 <;> cases x5 <;> rfl
  rw [e]
  congr 1
  rw [Bool.eq_iff_iff]
  simp only [Bool.and_eq_true, Bool.or_eq_true, decide_eq_true_eq, beq_iff_eq]
  exact Iff.rfl
theorem p100_is (N : Nat) (n d b : Int) : p100 N n d b = some (decide (may n d b)) := p102_is N n d b
/-- the greatest number of which the power is not above -/
def isR (n p b x : Nat) : Prop := x ^ p ≤ n * 2 ^ (p * b) ∧ n * 2 ^ (p * b) < (x + 1) ^ p
theorem isR_uniq {n p b x y : Nat} (hp : p ≠ 0) (hx : isR n p b x) (hy : isR n p b y) : x = y := by
  rcases Nat.lt_trichotomy x y with h | h | h
  · have := (pow_le_iff (a := x + 1) (b := y) hp).2 h
    have h1 := hx.2; have h2 := hy.1
    omega
  · exact h
  · have := (pow_le_iff (a := y + 1) (b := x) hp).2 h
    have h1 := hy.2; have h2 := hx.1
    omega
theorem big {n p b : Nat} (hn : n ≤ 1000) (hp : p = 2 ∨ p = 3) (hb : b ≤ 32) : n * 2 ^ (p * b) < (2 ^ 37) ^ p := by
  have h1 : n * 2 ^ (p * b) ≤ 1000 * 2 ^ (p * 32) := Nat.mul_le_mul hn (Nat.pow_le_pow_right (by omega) (Nat.mul_le_mul_left _ hb))
  rcases hp with rfl | rfl
  · exact Nat.lt_of_le_of_lt h1 (by decide)
  · exact Nat.lt_of_le_of_lt h1 (by decide)
def h117 (a : Int) := p117 60 a
def h118 (a b : List Int) := p118 250 a b
def h103 (a b : Int) := p103 h117 h118 110 a b
def h105 (a b : Int) := p105 h117 h118 20 a b
def h119 (a : List Int) (b : Int) := p119 0 a b
def h104 (a b : List Int) := p104 h119 250 a b
def h102 (a b c : Int) := p102 0 a b c
def h76 (a b c : Int) := p76 h102 h103 h105 h104 60 a b c
theorem Eh117 : EntOK FT XT 117 (en117 h117) := ok117 fun _ _ h => ⟨60, h⟩
theorem Eh118 : EntOK FT XT 118 (en118 h118) := ok118 fun _ _ _ h => ⟨250, h⟩
theorem Eh76 : EntOK FT XT 76 (en76 h76) := ok76 h102 h103 h105 h104 (ok102 fun _ _ _ _ h => ⟨0, h⟩) (ok103 h117 h118 Eh117 Eh118 fun _ _ _ h => ⟨110, h⟩) (ok105 h117 h118 Eh117 Eh118 fun _ _ _ h => ⟨20, h⟩) (ok104 h119 (ok119 fun _ _ _ h => ⟨0, h⟩) fun _ _ _ h => ⟨250, h⟩) fun _ _ _ _ h => ⟨60, h⟩
theorem kk117 : K117 h117 4 := fun n hn => p117_is (e := 4) (by rw [show (65536 : Nat) ^ 4 = 2 ^ 64 from rfl]; exact hn) (by omega) hn (by omega)
theorem kk118 : K118 h118 := fun a b ha hb h1 h2 => p118_is ha hb (by omega) (by omega) (by omega)
theorem p76_is {c102 : Int → Int → Int → Option Bool} {c103 : Int → Int → Option (List Int)} {c105 : Int → Int → Option (List Int)} {c104 : List Int → List Int → Option Bool} {n p b : Nat}
    (F2 : ∀ n d b, c102 n d b = some (decide (may n d b))) {top : List Nat} (F3 : c103 (n : Int) ((p * b : Nat) : Int) = some (nI top))
    (F : ∀ x : Nat, x < 2 ^ 42 → ∃ r, c105 (x : Int) (p : Int) = some r ∧ c104 r (nI top) = some (decide (x ^ p > n * 2 ^ (p * b)))) (hn : n ≤ 1000) (hp : p = 2 ∨ p = 3) (hb : b ≤ 32) :
    ∃ x : Nat, p76 c102 c103 c105 c104 60 (n : Int) (p : Int) (b : Int) = some ((x : Int), 0) ∧ x < 2 ^ 37 ∧ isR n p b x := by
  have hm : may (n : Int) (p : Int) (b : Int) := by unfold may; omega
  have hpb : p * b ≤ 96 := by rcases hp with rfl | rfl <;> omega
  have e1 : IntKind.u64.wrap (n : Int) = (n : Int) := wrap_u .u64 rfl (by omega) (by have : n < 2 ^ 64 := by omega
                                                                                     exact_mod_cast this)
  have e2 : imul .i64 (p : Int) (b : Int) = ((p * b : Nat) : Int) := by
    rw [imul_i]
    · norm_cast
    · have : (0 : Int) ≤ (p : Int) * (b : Int) := by norm_cast; omega
      omega
    · have : (p : Int) * (b : Int) ≤ 96 := by exact_mod_cast hpb
      omega
  have hbig := big hn hp hb
  obtain ⟨x, x1, x2, x3⟩ := L76_is (c102 := c102) (c103 := c103) 60 p top (n * 2 ^ (p * b)) F (by omega) 40 0 60 (by omega) (by omega) (by omega) (by rcases hp with rfl | rfl <;> simp) (Nat.lt_of_lt_of_le hbig (Nat.pow_le_pow_left (by decide) p))
  refine ⟨x, ?_, ?_, x3⟩
  · unfold p76
    simp only [F2, hm, decide_true, Bool.not_true, cond_false, e1, e2, F3]
    exact x1
  · have := (Nat.pow_lt_pow_iff_left (show p ≠ 0 by omega)).1 (Nat.lt_of_le_of_lt x3.1 hbig)
    exact this
theorem h76_is {n p b : Nat} (hn : n ≤ 1000) (hp : p = 2 ∨ p = 3) (hb : b ≤ 32) : ∃ x : Nat, h76 (n : Int) (p : Int) (b : Int) = some ((x : Int), 0) ∧ x < 2 ^ 37 ∧ isR n p b x := by
  have hpb : p * b ≤ 96 := by rcases hp with rfl | rfl <;> omega
  obtain ⟨top, t1, t2, t3, t4⟩ := p103_is (N := 110) kk117 kk118 (n := n) (p := p * b) (by omega) hpb (by omega)
  refine p76_is (c102 := h102) (c103 := h103) (c105 := h105) (c104 := h104) (top := top) (fun n d b => p102_is 0 n d b) t1 ?_ hn hp hb
  intro x hx
  obtain ⟨l, l1, l2, l3, l4⟩ := p105_is (N := 20) kk117 kk118 (x := x) (p := p) (by omega) (by omega) (by omega)
  refine ⟨nI l, l1, ?_⟩
  have := p104_is (c119 := h119) (fun l j => p119_is (N := 0) l j) (N := 250) l2 t2 (by omega) (by omega) (by omega)
  rw [l4, t4] at this
  exact this
theorem h76_no {n d b : Int} (h : ¬ may n d b) : h76 n d b = some (0, 1) := by
  unfold h76 p76 h102
  rw [p102_is]
  simp only [h, decide_false, Bool.not_false, cond_true]
end Go.Proofs.YtilhmbjcpflodaaE
