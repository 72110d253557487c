/- Chapter 3: bytes made odd, keys spread and gathered. -/
import Derived.Test.YtgjbkgajkcgdfaaEvB3V
namespace Go.Proofs.YtgjbkgajkcgdfaaE
open Go
set_option linter.unusedSimpArgs false
set_option linter.unusedVariables false

/-! ### a byte made odd -/
def ones : Nat → Nat → Nat
  | 0, _ => 0
  | n + 1, b => b % 2 + ones n (b / 2)
def oddOf (b : Nat) : Nat := b / 2 * 2 + (ones 7 (b / 2) + 1) % 2
theorem oddOf_half (y : Nat) : oddOf (y * 2) / 2 = y := by unfold oddOf; omega
theorem ones_le : ∀ n b, ones n b ≤ n
  | 0, _ => Nat.le_refl _
  | n + 1, b => by have := ones_le n (b / 2); simp only [ones]; omega
theorem oddOf_lt (y : Nat) (h : y < 2 ^ 7) : oddOf (y * 2) < 256 := by unfold oddOf; omega
def f52 (a : Int) : Option Int := p52 0 a
theorem E52 : EntOK FT XT 52 (en52 f52) := ok52 (fun a r h => ⟨0, h⟩)
def f25 (a : Int) : Option Int := if 0 ≤ a ∧ a < 256 then some ((oddOf a.toNat : Nat) : Int) else none
theorem all25 : ((List.range 256).all fun b => p25 f52 0 ((b : Nat) : Int) == some ((oddOf b : Nat) : Int)) = true := by kernel_rfl
theorem all39 : ((List.range 256).all fun b => p39 10 ((b : Nat) : Int) == some ((oddOf b : Nat) : Int)) = true := by kernel_rfl
theorem E25 : EntOK FT XT 25 (en25 f25) := ok25 f52 E52 (fun a r h => ⟨0, by
  simp only [f25] at h
  split at h <;> try (cases h; done)
  rename_i hc
  injection h with h; subst h
  obtain ⟨n, rfl⟩ := nat_of hc.1
  exact eq_of_beq (List.all_eq_true.1 all25 n (List.mem_range.2 (by omega)))⟩)
theorem E39 : EntOK FT XT 39 (en39 f25) := ok39 (fun a r h => ⟨10, by
  simp only [f25] at h
  split at h <;> try (cases h; done)
  rename_i hc
  injection h with h; subst h
  obtain ⟨n, rfl⟩ := nat_of hc.1
  exact eq_of_beq (List.all_eq_true.1 all39 n (List.mem_range.2 (by omega)))⟩)
theorem f25_nat (n : Nat) (h : n < 256) : f25 (n : Int) = some ((oddOf n : Nat) : Int) := by
  unfold f25; rw [if_pos (by omega), Int.toNat_natCast]

/-! ### whether two rows are the same -/
def f23 (l m : List Int) : Option Bool := if l.length ≤ 2 ^ 20 then some (decide (l = m)) else none
theorem L23_is (N : Nat) (l m : List Int) (h : l.length = m.length) (hb : l.length ≤ 2 ^ 20) : ∀ d i n, i + d = l.length → d < n → L23_0 N (some true) n l m (i : Int) = some (decide (l.drop i = m.drop i)) := by
  intro d
  induction d with
  | zero =>
    intro i n hd hn
    obtain ⟨k, rfl⟩ : ∃ k, n = k + 1 := ⟨n - 1, by omega⟩
    simp only [L23_0, show ¬ ((i : Int) < ((l.length : Nat) : Int)) by omega, decide_false, cond_false]
    rw [List.drop_of_length_le (by omega), List.drop_of_length_le (by omega)]; simp
  | succ d ih =>
    intro i n hd hn
    obtain ⟨k, rfl⟩ : ∃ k, n = k + 1 := ⟨n - 1, by omega⟩
    have hi : i < l.length := by omega
    have hj : i < m.length := by omega
    simp only [L23_0, show ((i : Int) < ((l.length : Nat) : Int)) by omega, decide_true, cond_true, geti_nat, List.getElem?_eq_getElem hi, List.getElem?_eq_getElem hj]
    rw [List.drop_eq_getElem_cons hi, List.drop_eq_getElem_cons hj]
    by_cases e : l[i] = m[i]
    · rw [e]
      simp only [bne_self_eq_false, cond_false, List.cons.injEq, true_and]
      rw [show iadd .i64 (i : Int) 1 = ((i + 1 : Nat) : Int) from by rw [iadd_i (by omega) (by omega)]; omega]
      exact ih (i + 1) k (by omega) (by omega)
    · simp only [bne_iff_ne.2 e, cond_true, List.cons.injEq, e, false_and, decide_false]
theorem E23 : EntOK FT XT 23 (en23 f23) := ok23 (fun l m r h => ⟨2 ^ 20 + 1, by
  simp only [f23] at h
  split at h <;> try (cases h; done)
  rename_i hc
  injection h with h; subst h
  rw [p23.eq_def]
  by_cases e : l.length = m.length
  · have := L23_is (2 ^ 20 + 1) l m e hc l.length 0 (2 ^ 20 + 1) (by omega) (by omega)
    simp only [e, bne_self_eq_false, cond_false]
    simpa using this
  · have h1 : (((l.length : Nat) : Int) != ((m.length : Nat) : Int)) = true := bne_iff_ne.2 (by omega)
    have h2 : l ≠ m := fun h => e (by rw [h])
    simp [h1, h2]⟩)

/-! ### rows -/
theorem rowN_get' (x w j : Nat) (h : j < w) : (rowN x w)[j]? = some (x.testBit (w - 1 - j)).toNat := by
  rw [rowN_get x w j h, Nat.toNat_testBit]
theorem rowN_none (x w j : Nat) (h : w ≤ j) : (rowN x w)[j]? = none := List.getElem?_eq_none (by rw [rowN_len]; exact h)
theorem rowN_drop (x w a : Nat) (h : a ≤ w) : (rowN x w).drop a = rowN x (w - a) := by
  apply List.ext_getElem?
  intro j
  rw [List.getElem?_drop]
  by_cases hj : j < w - a
  · rw [rowN_get' _ _ _ (by omega), rowN_get' _ _ _ hj, show w - 1 - (a + j) = w - a - 1 - j by omega]
  · rw [rowN_none _ _ _ (by omega), rowN_none _ _ _ (by omega)]
theorem rowN_take (x w a : Nat) (h : a ≤ w) : (rowN x w).take a = rowN (x / 2 ^ (w - a)) a := by
  apply List.ext_getElem?
  intro j
  by_cases hj : j < a
  · rw [List.getElem?_take_of_lt hj, rowN_get' _ _ _ (by omega), rowN_get' _ _ _ hj, Nat.testBit_div_two_pow, show a - 1 - j + (w - a) = w - 1 - j by omega]
  · rw [rowN_none _ _ _ (by omega), List.getElem?_take]; simp [hj]
theorem word_rowN (x w : Nat) : wordN (rowN x w) = x % 2 ^ w := by
  have := word_take x w w (Nat.le_refl _)
  rw [List.take_of_length_le (by rw [rowN_len]; omega)] at this
  simpa using this
theorem rowN_app (x b n m : Nat) (h : b < 2 ^ m) : rowN x n ++ rowN b m = rowN (x * 2 ^ m + b) (n + m) := by
  apply List.ext_getElem?
  intro j
  have e : ∀ i, (x * 2 ^ m + b).testBit i = if i < m then b.testBit i else x.testBit (i - m) := fun i => by
    rw [Nat.mul_comm]; exact Nat.testBit_two_pow_mul_add x h i
  by_cases hj : j < n
  · rw [List.getElem?_append_left (by rw [rowN_len]; exact hj), rowN_get' _ _ _ hj, rowN_get' _ _ _ (by omega), e, if_neg (by omega), show n + m - 1 - j - m = n - 1 - j by omega]
  · rw [List.getElem?_append_right (by rw [rowN_len]; omega), rowN_len]
    by_cases hm : j < n + m
    · rw [rowN_get' _ _ _ (by omega), rowN_get' _ _ _ hm, e, if_pos (by omega), show n + m - 1 - j = m - 1 - (j - n) by omega]
    · rw [rowN_none _ _ _ (by omega), rowN_none _ _ _ (by omega)]

/-! ### keys -/
def numN (l : List Nat) : Nat := l.foldl (fun a b => a * 2 ^ 8 + b) 0
def halfN (l : List Nat) : Nat := l.foldl (fun a b => a * 2 ^ 7 + b / 2) 0
def sp (x i : Nat) : Nat := oddOf (x / 2 ^ (7 * (7 - i)) % 2 ^ 7 * 2)
def ga (x i : Nat) : Nat := x / 2 ^ (8 * (6 - i)) % 2 ^ 8
def spreadN (l : List Nat) : List Nat := (List.range' 0 8).map (sp (numN l))
def gatherN (l : List Nat) : List Nat := (List.range' 0 7).map (ga (halfN l))
theorem num_lt (l : List Nat) (h : ∀ b ∈ l, b < 256) : ∀ x n, x < 2 ^ n → l.foldl (fun a b => a * 2 ^ 8 + b) x < 2 ^ (n + 8 * l.length) := by
  induction l with
  | nil => intro x n hx; simpa using hx
  | cons b l ih =>
    intro x n hx
    have hb := h b (by simp)
    have := ih (fun c hc => h c (by simp [hc])) (x * 2 ^ 8 + b) (n + 8) (by rw [Nat.pow_add]; omega)
    rw [List.foldl_cons, List.length_cons]
    rw [show n + 8 * (l.length + 1) = n + 8 + 8 * l.length by omega]; exact this
theorem num_row (l : List Nat) (h : ∀ b ∈ l, b < 256) : ∀ x n, l.foldl (fun s b => s ++ rowN b 8) (rowN x n) = rowN (l.foldl (fun a b => a * 2 ^ 8 + b) x) (n + 8 * l.length) := by
  induction l with
  | nil => intro x n; simp
  | cons b l ih =>
    intro x n
    have hb := h b (by simp)
    rw [List.foldl_cons, List.foldl_cons, rowN_app _ _ _ _ (by omega), ih (fun c hc => h c (by simp [hc])), List.length_cons, show n + 8 * (l.length + 1) = n + 8 + 8 * l.length by omega]
theorem half_row (l : List Nat) (h : ∀ b ∈ l, b < 256) : ∀ x n, l.foldl (fun s b => s ++ (rowN b 8).take 7) (rowN x n) = rowN (l.foldl (fun a b => a * 2 ^ 7 + b / 2) x) (n + 7 * l.length) := by
  induction l with
  | nil => intro x n; simp
  | cons b l ih =>
    intro x n
    have hb := h b (by simp)
    rw [List.foldl_cons, List.foldl_cons, rowN_take _ _ _ (by omega), rowN_app _ _ _ _ (by omega), ih (fun c hc => h c (by simp [hc])), List.length_cons, show n + 7 * (l.length + 1) = n + 7 + 7 * l.length by omega]
theorem half_lt (l : List Nat) (h : ∀ b ∈ l, b < 256) : ∀ x n, x < 2 ^ n → l.foldl (fun a b => a * 2 ^ 7 + b / 2) x < 2 ^ (n + 7 * l.length) := by
  induction l with
  | nil => intro x n hx; simpa using hx
  | cons b l ih =>
    intro x n hx
    have hb := h b (by simp)
    have := ih (fun c hc => h c (by simp [hc])) (x * 2 ^ 7 + b / 2) (n + 7) (by rw [Nat.pow_add]; omega)
    rw [List.foldl_cons, List.length_cons]
    rw [show n + 7 * (l.length + 1) = n + 7 + 7 * l.length by omega]; exact this
theorem nI_mem {m : List Nat} {i : Nat} {c : Int} (h : (nI m)[i]? = some c) : ∃ b : Nat, b ∈ m ∧ c = b ∧ m[i]? = some b := by
  rw [nI_get] at h
  cases e : m[i]? with
  | none => rw [e] at h; cases h
  | some b => rw [e] at h; injection h with h; exact ⟨b, List.mem_of_getElem? e, h.symm, rfl⟩
/-- a loop over numbers -/
theorem nat_fold {σ ρ : Type} {L : Nat → σ → Int → Option ρ} {m : List Nat} {g : σ → Nat → σ} {fin : σ → ρ} (P : σ → Nat → Prop)
    (h : ∀ n s (i : Nat) b, P s i → m[i]? = some b → i < m.length → P (g s b) (i + 1) ∧ L (n + 1) s i = L n (g s b) ((i + 1 : Nat) : Int))
    (h0 : ∀ n s, P s m.length → ∃ r, L (n + 1) s (m.length : Int) = some r ∧ r = fin s) (N : Nat) (hN : m.length < N) (s : σ) (hs : P s 0) : L N s 0 = some (fin (m.foldl g s)) :=
  range_fold P h (fun n s hp => by obtain ⟨r, e, h⟩ := h0 n s hp; rw [e, h]) N hN s hs
def allB (l : List Int) : Prop := ∀ b ∈ l, 0 ≤ b ∧ b < 256
theorem allB_nat {l : List Int} (h : allB l) : ∃ m : List Nat, l = nI m ∧ ∀ b ∈ m, b < 256 := by
  refine ⟨l.map Int.toNat, ?_, fun b hb => ?_⟩
  · unfold nI
    rw [List.map_map]
    conv => lhs; rw [← List.map_id l]
    apply List.map_congr_left
    intro b hb
    have := h b hb
    simp; omega
  · obtain ⟨c, hc, rfl⟩ := List.mem_map.1 hb
    have := h c hc
    omega
theorem nI_nat (m : List Nat) : (nI m).map Int.toNat = m := by unfold nI; rw [List.map_map]; exact (List.map_congr_left (fun a _ => Int.toNat_natCast a)).trans (List.map_id m)
theorem nI_allB {m : List Nat} (h : ∀ b ∈ m, b < 256) : allB (nI m) := fun b hb => by
  obtain ⟨c, hc, rfl⟩ := List.mem_map.1 hb
  have := h c hc
  omega
section
variable {c25 c39 : Int → Option Int} {c56 : Int → Int → Option (List Int)} {c57 : List Int → Option Int}
theorem p24_bad {a : List Int} (h : a.length ≠ 7) : p24 c25 20 a = some ([], 1) := by
  rw [p24.eq_def]
  have : (((a.length : Nat) : Int) != 7) = true := by simp; omega
  simp [this]
theorem p24_is {m : List Nat} (F : ∀ n : Nat, n < 256 → c25 n = some ((oddOf n : Nat) : Int)) (hb : ∀ b ∈ m, b < 256) (hm : m.length = 7) : p24 c25 20 (nI m) = some (nI (spreadN m), 0) := by
  rw [p24.eq_def]
  have h7 : (((nI m).length : Nat) : Int) = 7 := by rw [nI_len]; omega
  rw [h7]
  simp only [bne_self_eq_false, cond_false]
  generalize hQ : (fun (y6 : Int) => L24_1 c25 20 _ 20 y6 8 8 (8 : Int) (0 : Int) _) = Q
  have key := nat_fold (L := fun n (s : Nat) i => L24_0 c25 20 Q n (s : Int) (nI m) 7 i) (m := m) (g := fun a b => a * 2 ^ 8 + b) (fin := fun s => (nI ((List.range' 0 8).map (sp s)), (0 : Int))) (fun s i => s < 2 ^ (8 * i))
    (fun n s i b hp hg hi => by
      have hb' := hb b (List.mem_of_getElem? hg)
      have hi6 : i ≤ 6 := by omega
      have hs : s < 2 ^ 48 := Nat.lt_of_lt_of_le hp (Nat.pow_le_pow_right (by omega) (by omega))
      refine ⟨by rw [show 8 * (i + 1) = 8 * i + 8 by omega, Nat.pow_add]; omega, ?_⟩
      have e1 := ishl_u .u64 rfl s 8 (by show _ ≤ 64; omega)
      rw [show (2 : Nat) ^ IntKind.u64.bits = 2 ^ 64 from rfl, Nat.mod_eq_of_lt (show s * 2 ^ 8 < 2 ^ 64 by omega)] at e1
      have e2 := ior_u .u64 rfl (s * 2 ^ 8) b (by show _ < 2 ^ 64; omega) (by show _ < 2 ^ 64; omega)
      rw [Nat.mul_comm s, ← Nat.two_pow_add_eq_or_of_lt hb', Nat.mul_comm _ s] at e2
      have e3 : IntKind.u64.wrap (b : Int) = b := wrap_u .u64 rfl (by omega) (by show _ < 2 ^ 64; omega)
      have e4 : iadd .i64 (i : Int) 1 = ((i + 1 : Nat) : Int) := by rw [iadd_i (by omega) (by omega)]; omega
      simp only [L24_0, show (i : Int) < 7 by omega, decide_true, cond_true, geti_nat, nI_get, hg, Option.map_some, e3, e4]
      rw [show (8 : Int) = ((8 : Nat) : Int) from rfl, e1, e2])
    (fun n s hp => by
      refine ⟨_, ?_, rfl⟩
      rw [hm] at hp
      simp only [hm, L24_0, show ¬ (((7 : Nat) : Int) < 7) by omega, decide_false, cond_false]
      rw [← hQ]
      have k2 := up_run (L := fun n (l : List Int) i => L24_1 c25 20 (fun (y14 : Nat) (y15 : Nat) (y16 : List Int) =>
            bif (decide ((0 + (y14 * 1)) ≤ (List.length y16))) then
              some ((List.take y14 (List.drop 0 y16)), (0 : Int))
            else none) n (s : Int) 8 8 8 i l) (g := fun l i => l.set i ((sp s i : Nat) : Int)) (fin := fun l => (l, (0 : Int))) (fun l i => l.length = 8) 8
        (fun n l i hi hl => by
          refine ⟨by simpa using hl, ?_⟩
          have q1 : isub .i64 (7 : Int) (i : Int) = ((7 - i : Nat) : Int) := by rw [isub_i (by omega) (by omega)]; omega
          have q2 : imul .i64 (7 : Int) ((7 - i : Nat) : Int) = ((7 * (7 - i) : Nat) : Int) := by rw [imul_i (by omega) (by omega)]; omega
          have q3 := ishr_u .u64 s (7 * (7 - i)) (by show _ ≤ 64; omega)
          have q4 := ishl_u .u64 rfl (s / 2 ^ (7 * (7 - i))) 1 (by show _ ≤ 64; omega)
          have q5 : IntKind.u8.wrap (((s / 2 ^ (7 * (7 - i)) * 2 ^ 1 % 2 ^ 64 : Nat)) : Int) = ((s / 2 ^ (7 * (7 - i)) % 2 ^ 7 * 2 : Nat) : Int) := by rw [wrap_u8]; omega
          have q6 : iadd .i64 (i : Int) 1 = ((i + 1 : Nat) : Int) := by rw [iadd_i (by omega) (by omega)]; omega
          have q7 : ((s / 2 ^ (7 * (7 - i)) % 2 ^ 7 * 2 : Nat)) < 256 := by omega
          simp only [L24_1, show (i : Int) < 8 by omega, decide_true, cond_true, q1, q2, show ¬ (((7 * (7 - i) : Nat) : Int) < 0) by omega, decide_false, cond_false, q3]
          rw [show (1 : Int) = ((1 : Nat) : Int) from rfl, q4, show (2 : Nat) ^ IntKind.u64.bits = 2 ^ 64 from rfl, q5, F _ q7]
          simp only [show (0 : Int) ≤ (i : Int) by omega, show (i : Int) < ((8 : Nat) : Int) by omega, Int.toNat_natCast, Nat.mul_one, Nat.zero_add, hl, show i < 8 by omega, decide_true, Bool.and_self, cond_true, show ((1 : Nat) : Int) = (1 : Int) from rfl, q6]
          rfl)
        (fun n l hl => by
          simp [L24_1, hl, List.take_of_length_le])
        8 0 20 [0, 0, 0, 0, 0, 0, 0, 0] (by omega) (by omega) rfl
      exact k2) 20 (by omega) 0 (by simp)
  exact key
theorem p37_bad {a : List Int} (h : a.length ≠ 8) : p37 20 a = some ([], 1) := by
  rw [p37.eq_def]
  have : (((a.length : Nat) : Int) != 8) = true := bne_iff_ne.2 (by omega)
  simp [this]
theorem p37_is {m : List Nat} (hb : ∀ b ∈ m, b < 256) (hm : m.length = 8) : p37 20 (nI m) = some (nI (gatherN m), 0) := by
  rw [p37.eq_def]
  have h7 : (((nI m).length : Nat) : Int) = 8 := by rw [nI_len]; omega
  rw [h7]
  simp only [bne_self_eq_false, cond_false]
  generalize hQ : (fun (y6 : Int) => L37_1 20 _ 20 y6 7 7 (7 : Int) (0 : Int) _) = Q
  have key := nat_fold (L := fun n (s : Nat) i => L37_0 20 Q n (s : Int) (nI m) 8 i) (m := m) (g := fun a b => a * 2 ^ 7 + b / 2) (fin := fun s => (nI ((List.range' 0 7).map (ga s)), (0 : Int))) (fun s i => s < 2 ^ (7 * i))
    (fun n s i b hp hg hi => by
      have hb' := hb b (List.mem_of_getElem? hg)
      have hi6 : i ≤ 7 := by omega
      have hs : s < 2 ^ 49 := Nat.lt_of_lt_of_le hp (Nat.pow_le_pow_right (by omega) (by omega))
      refine ⟨by rw [show 7 * (i + 1) = 7 * i + 7 by omega, Nat.pow_add]; omega, ?_⟩
      have e1 := ishl_u .u64 rfl s 7 (by show _ ≤ 64; omega)
      rw [show (2 : Nat) ^ IntKind.u64.bits = 2 ^ 64 from rfl, Nat.mod_eq_of_lt (show s * 2 ^ 7 < 2 ^ 64 by omega)] at e1
      have e2 := ior_u .u64 rfl (s * 2 ^ 7) (b / 2) (by show _ < 2 ^ 64; omega) (by show _ < 2 ^ 64; omega)
      rw [Nat.mul_comm s, ← Nat.two_pow_add_eq_or_of_lt (show b / 2 < 2 ^ 7 by omega), Nat.mul_comm _ s] at e2
      have e5 := ishr_u .u8 b 1 (by show _ ≤ 8; omega)
      rw [Nat.pow_one] at e5
      have e3 : IntKind.u64.wrap ((b / 2 : Nat) : Int) = ((b / 2 : Nat) : Int) := wrap_u .u64 rfl (by omega) (by show _ < 2 ^ 64; omega)
      have e4 : iadd .i64 (i : Int) 1 = ((i + 1 : Nat) : Int) := by rw [iadd_i (by omega) (by omega)]; omega
      simp only [L37_0, show (i : Int) < 8 by omega, decide_true, cond_true, geti_nat, nI_get, hg, Option.map_some, e4]
      rw [show (7 : Int) = ((7 : Nat) : Int) from rfl, show ishr .u8 (b : Int) 1 = _ from e5, e3, e1, e2])
    (fun n s hp => by
      refine ⟨_, ?_, rfl⟩
      rw [hm] at hp
      simp only [hm, L37_0, show ¬ (((8 : Nat) : Int) < 8) by omega, decide_false, cond_false]
      rw [← hQ]
      have k2 := up_run (L := fun n (l : List Int) i => L37_1 20 (fun (y14 : Nat) (y15 : Nat) (y16 : List Int) =>
            bif (decide ((0 + (y14 * 1)) ≤ (List.length y16))) then
              some ((List.take y14 (List.drop 0 y16)), (0 : Int))
            else none) n (s : Int) 7 7 7 i l) (g := fun l i => l.set i ((ga s i : Nat) : Int)) (fin := fun l => (l, (0 : Int))) (fun l i => l.length = 7) 7
        (fun n l i hi hl => by
          refine ⟨by simpa using hl, ?_⟩
          have q1 : isub .i64 (6 : Int) (i : Int) = ((6 - i : Nat) : Int) := by rw [isub_i (by omega) (by omega)]; omega
          have q2 : imul .i64 (8 : Int) ((6 - i : Nat) : Int) = ((8 * (6 - i) : Nat) : Int) := by rw [imul_i (by omega) (by omega)]; omega
          have q3 := ishr_u .u64 s (8 * (6 - i)) (by show _ ≤ 64; omega)
          have q5 : IntKind.u8.wrap (((s / 2 ^ (8 * (6 - i)) : Nat)) : Int) = ((ga s i : Nat) : Int) := by rw [wrap_u8]; unfold ga; omega
          have q6 : iadd .i64 (i : Int) 1 = ((i + 1 : Nat) : Int) := by rw [iadd_i (by omega) (by omega)]; omega
          simp only [L37_1, show (i : Int) < 7 by omega, decide_true, cond_true, q1, q2, show ¬ (((8 * (6 - i) : Nat) : Int) < 0) by omega, decide_false, cond_false, q3, q5, show (0 : Int) ≤ (i : Int) by omega, show (i : Int) < ((7 : Nat) : Int) by omega, Int.toNat_natCast, Nat.mul_one, Nat.zero_add, hl, show i < 7 by omega, Bool.and_self, q6])
        (fun n l hl => by
          simp [L37_1, hl, List.take_of_length_le])
        7 0 20 [0, 0, 0, 0, 0, 0, 0] (by omega) (by omega) rfl
      exact k2) 20 (by omega) 0 (by simp)
  exact key
theorem p36_bad {a : List Int} (h : a.length ≠ 7) : p36 c56 c57 c39 20 a = some ([], 1) := by
  rw [p36.eq_def]
  have : (((a.length : Nat) : Int) != 7) = true := bne_iff_ne.2 (by omega)
  simp [this]
theorem p38_bad {a : List Int} (h : a.length ≠ 8) : p38 c56 c57 20 a = some ([], 1) := by
  rw [p38.eq_def]
  have : (((a.length : Nat) : Int) != 8) = true := bne_iff_ne.2 (by omega)
  simp [this]
theorem part_row (x a i n w : Nat) (h : a + n ≤ w) : (nI ((((rowN x w)).drop a).take n)) = nI (rowN (x / 2 ^ (w - a - n)) n) := by
  rw [rowN_drop _ _ _ (by omega), rowN_take _ _ _ (by omega)]
theorem p36_is {m : List Nat} (F : ∀ n : Nat, n < 256 → c39 n = some ((oddOf n : Nat) : Int)) (G : ∀ n : Nat, n < 256 → c56 n 8 = some (nI (rowN n 8))) (J : ∀ l : List Nat, (∀ b ∈ l, b < 2) → l.length ≤ 64 → c57 (nI l) = some ((wordN l : Nat) : Int))
    (hb : ∀ b ∈ m, b < 256) (hm : m.length = 7) : p36 c56 c57 c39 20 (nI m) = some (nI (spreadN m), 0) := by
  rw [p36.eq_def]
  have h7 : (((nI m).length : Nat) : Int) = 7 := by rw [nI_len]; omega
  rw [h7]
  simp only [bne_self_eq_false, cond_false]
  generalize hQ : (fun (y7 : Nat) (y8 : List Int) => L36_1 c56 c57 c39 20 _ 20 y7 0 (0 : Int) y8 ([] : List Int)) = Q
  have key := nat_fold (L := fun n (s : List Nat) i => L36_0 c56 c57 c39 20 Q n (nI m) s.length i (nI s)) (m := m) (g := fun s b => s ++ rowN b 8) (fin := fun s => (nI ((List.range' 0 8).map (fun i => oddOf (wordN ((s.drop (7 * i)).take 7) * 2))), (0 : Int))) (fun s i => s.length = 8 * i ∧ ∀ b ∈ s, b < 2)
    (fun n s i b hp hg hi => by
      have hb' := hb b (List.mem_of_getElem? hg)
      have hi6 : i ≤ 6 := by omega
      refine ⟨⟨by rw [List.length_append, rowN_len, hp.1]; omega, fun c hc => (List.mem_append.1 hc).elim (hp.2 c) (rowN_lt b 8 c)⟩, ?_⟩
      have e3 : IntKind.u64.wrap (b : Int) = b := wrap_u .u64 rfl (by omega) (by show _ < 2 ^ 64; omega)
      have e4 : iadd .i64 (i : Int) 1 = ((i + 1 : Nat) : Int) := by rw [iadd_i (by omega) (by omega)]; omega
      simp only [L36_0, show (i : Int) < 7 by omega, decide_true, cond_true, geti_nat, nI_get, hg, Option.map_some, e3, e4, G b hb', nI_len, rowN_len, hp.1, Nat.mul_one, beq_self_eq_true, show 8 * i + 8 ≤ 1099511627776 by omega, Bool.and_self, List.length_append, nI_app])
    (fun n s hp => by
      refine ⟨_, ?_, rfl⟩
      rw [hm] at hp
      obtain ⟨hl, hs2⟩ := hp
      simp only [hm, L36_0, show ¬ (((7 : Nat) : Int) < 7) by omega, decide_false, cond_false]
      rw [← hQ, hl]
      have k2 := up_run (L := fun n (l : List Int) i => L36_1 c56 c57 c39 20 (fun (y15 : Nat) (y16 : List Int) =>
            bif (decide ((0 + (y15 * 1)) ≤ (List.length y16))) then
              some ((List.take y15 (List.drop 0 y16)), (0 : Int))
            else none) n 56 l.length i (nI s) l) (g := fun l i => l ++ [((oddOf (wordN ((s.drop (7 * i)).take 7) * 2) : Nat) : Int)]) (fin := fun l => (l, (0 : Int))) (fun l i => l.length = i) 8
        (fun n l i hi hll => by
          refine ⟨by simp [hll], ?_⟩
          have q1 : imul .i64 (7 : Int) (i : Int) = ((7 * i : Nat) : Int) := by rw [imul_i (by omega) (by omega)]; omega
          have q2 : iadd .i64 ((7 * i : Nat) : Int) (7 : Int) = ((7 * i + 7 : Nat) : Int) := by rw [iadd_i (by omega) (by omega)]; omega
          have q6 : iadd .i64 (i : Int) 1 = ((i + 1 : Nat) : Int) := by rw [iadd_i (by omega) (by omega)]; omega
          have hw : ∀ b ∈ (s.drop (7 * i)).take 7, b < 2 := fun b hb => hs2 b (List.mem_of_mem_drop (List.mem_of_mem_take hb))
          have hl7 : ((s.drop (7 * i)).take 7).length = 7 := by rw [List.length_take, List.length_drop]; omega
          have hlt := wordN_lt _ hw
          rw [hl7] at hlt
          have q3 : imul .u64 (2 : Int) ((wordN ((s.drop (7 * i)).take 7) : Nat) : Int) = ((wordN ((s.drop (7 * i)).take 7) * 2 : Nat) : Int) := by
            unfold imul; rw [wrap_u .u64 rfl (by omega) (by show _ < 2 ^ 64; omega)]; omega
          have q4 : IntKind.u8.wrap ((wordN ((s.drop (7 * i)).take 7) * 2 : Nat) : Int) = ((wordN ((s.drop (7 * i)).take 7) * 2 : Nat) : Int) := wrap_u .u8 rfl (by omega) (by show _ < 2 ^ 8; omega)
          have q8 : 7 * i + 7 - 7 * i = 7 := by omega
          simp only [L36_1, show (i : Int) < 8 by omega, decide_true, cond_true, q1, q2, show (0 : Int) ≤ ((7 * i + 7 : Nat) : Int) by omega, show (0 : Int) ≤ ((7 * i : Nat) : Int) by omega, show ((7 * i + 7 : Nat) : Int) ≤ ((56 : Nat) : Int) by omega, Int.toNat_natCast, show ((7 * i : Nat) : Int) ≤ ((7 * i + 7 : Nat) : Int) by omega, Bool.and_self, q8, Nat.mul_one, Nat.zero_add, nI_len, hl, show 7 * i + 7 ≤ 8 * 7 by omega, nI_drop, nI_take, J _ hw (by omega), q3, q4, F _ (show wordN ((s.drop (7 * i)).take 7) * 2 < 256 by omega), hll, beq_self_eq_true, show i + 1 ≤ 1099511627776 by omega, q6, List.length_append, List.length_singleton])
        (fun n l hll => by
          simp [L36_1, hll, List.take_of_length_le])
        8 0 20 [] (by omega) (by omega) rfl
      exact k2) 20 (by omega) [] ⟨rfl, by simp⟩
  refine key.trans ?_
  have hr := num_row m hb 0 0
  rw [show rowN 0 0 = [] from rfl] at hr
  rw [hr, hm]
  unfold spreadN
  congr 3
  apply List.map_congr_left
  intro i hi
  have hi : i < 8 := by simp at hi; omega
  rw [rowN_drop _ _ _ (by omega), rowN_take _ _ _ (by omega), word_rowN, show 0 + 8 * 7 - 7 * i - 7 = 7 * (7 - i) by omega]
  rfl
theorem p38_is {m : List Nat} (G : ∀ n : Nat, n < 256 → c56 n 8 = some (nI (rowN n 8))) (J : ∀ l : List Nat, (∀ b ∈ l, b < 2) → l.length ≤ 64 → c57 (nI l) = some ((wordN l : Nat) : Int))
    (hb : ∀ b ∈ m, b < 256) (hm : m.length = 8) : p38 c56 c57 20 (nI m) = some (nI (gatherN m), 0) := by
  rw [p38.eq_def]
  have h7 : (((nI m).length : Nat) : Int) = 8 := by rw [nI_len]; omega
  rw [h7]
  simp only [bne_self_eq_false, cond_false]
  generalize hQ : (fun (y7 : Nat) (y8 : List Int) => L38_1 c56 c57 20 _ 20 y7 0 (0 : Int) y8 ([] : List Int)) = Q
  have key := nat_fold (L := fun n (s : List Nat) i => L38_0 c56 c57 20 Q n (nI m) s.length i (nI s)) (m := m) (g := fun s b => s ++ (rowN b 8).take 7) (fin := fun s => (nI ((List.range' 0 7).map (fun i => wordN ((s.drop (8 * i)).take 8))), (0 : Int))) (fun s i => s.length = 7 * i ∧ ∀ b ∈ s, b < 2)
    (fun n s i b hp hg hi => by
      have hb' := hb b (List.mem_of_getElem? hg)
      have hi6 : i ≤ 7 := by omega
      have hl7 : ((rowN b 8).take 7).length = 7 := by rw [List.length_take, rowN_len]; rfl
      refine ⟨⟨by rw [List.length_append, hl7, hp.1]; omega, fun c hc => (List.mem_append.1 hc).elim (hp.2 c) (fun h => rowN_lt b 8 c (List.mem_of_mem_take h))⟩, ?_⟩
      have e3 : IntKind.u64.wrap (b : Int) = b := wrap_u .u64 rfl (by omega) (by show _ < 2 ^ 64; omega)
      have e4 : iadd .i64 (i : Int) 1 = ((i + 1 : Nat) : Int) := by rw [iadd_i (by omega) (by omega)]; omega
      simp only [L38_0, show (i : Int) < 8 by omega, decide_true, cond_true, geti_nat, nI_get, hg, Option.map_some, e3, e4, G b hb', nI_take, nI_len, hl7, rowN_len, show (7 : Int) ≤ ((8 : Nat) : Int) by omega, hp.1, Nat.mul_one, beq_self_eq_true, show 7 * i + 7 ≤ 1099511627776 by omega, Bool.and_self, List.length_append, nI_app])
    (fun n s hp => by
      refine ⟨_, ?_, rfl⟩
      rw [hm] at hp
      obtain ⟨hl, hs2⟩ := hp
      simp only [hm, L38_0, show ¬ (((8 : Nat) : Int) < 8) by omega, decide_false, cond_false]
      rw [← hQ, hl]
      have k2 := up_run (L := fun n (l : List Int) i => L38_1 c56 c57 20 (fun (y15 : Nat) (y16 : List Int) =>
            bif (decide ((0 + (y15 * 1)) ≤ (List.length y16))) then
              some ((List.take y15 (List.drop 0 y16)), (0 : Int))
            else none) n 56 l.length i (nI s) l) (g := fun l i => l ++ [((wordN ((s.drop (8 * i)).take 8) : Nat) : Int)]) (fin := fun l => (l, (0 : Int))) (fun l i => l.length = i) 7
        (fun n l i hi hll => by
          refine ⟨by simp [hll], ?_⟩
          have q1 : imul .i64 (8 : Int) (i : Int) = ((8 * i : Nat) : Int) := by rw [imul_i (by omega) (by omega)]; omega
          have q2 : iadd .i64 ((8 * i : Nat) : Int) (8 : Int) = ((8 * i + 8 : Nat) : Int) := by rw [iadd_i (by omega) (by omega)]; omega
          have q6 : iadd .i64 (i : Int) 1 = ((i + 1 : Nat) : Int) := by rw [iadd_i (by omega) (by omega)]; omega
          have hw : ∀ b ∈ (s.drop (8 * i)).take 8, b < 2 := fun b hb => hs2 b (List.mem_of_mem_drop (List.mem_of_mem_take hb))
          have hl7 : ((s.drop (8 * i)).take 8).length = 8 := by rw [List.length_take, List.length_drop]; omega
          have hlt := wordN_lt _ hw
          rw [hl7] at hlt
          have q4 : IntKind.u8.wrap ((wordN ((s.drop (8 * i)).take 8) : Nat) : Int) = ((wordN ((s.drop (8 * i)).take 8) : Nat) : Int) := wrap_u .u8 rfl (by omega) (by show _ < 2 ^ 8; omega)
          have q8 : 8 * i + 8 - 8 * i = 8 := by omega
          simp only [L38_1, show (i : Int) < 7 by omega, decide_true, cond_true, q1, q2, show (0 : Int) ≤ ((8 * i + 8 : Nat) : Int) by omega, show (0 : Int) ≤ ((8 * i : Nat) : Int) by omega, show ((8 * i + 8 : Nat) : Int) ≤ ((56 : Nat) : Int) by omega, Int.toNat_natCast, show ((8 * i : Nat) : Int) ≤ ((8 * i + 8 : Nat) : Int) by omega, Bool.and_self, q8, Nat.mul_one, Nat.zero_add, nI_len, hl, show 8 * i + 8 ≤ 7 * 8 by omega, nI_drop, nI_take, J _ hw (by omega), q4, hll, beq_self_eq_true, show i + 1 ≤ 1099511627776 by omega, q6, List.length_append, List.length_singleton])
        (fun n l hll => by
          simp [L38_1, hll, List.take_of_length_le])
        7 0 20 [] (by omega) (by omega) rfl
      exact k2) 20 (by omega) [] ⟨rfl, by simp⟩
  refine key.trans ?_
  have hr := half_row m hb 0 0
  rw [show rowN 0 0 = [] from rfl] at hr
  rw [hr, hm]
  unfold gatherN
  congr 3
  apply List.map_congr_left
  intro i hi
  have hi : i < 7 := by simp at hi; omega
  rw [rowN_drop _ _ _ (by omega), rowN_take _ _ _ (by omega), word_rowN, show 0 + 7 * 8 - 8 * i - 8 = 8 * (6 - i) by omega]
  rfl
end
theorem spread_lt {m : List Nat} : ∀ b ∈ spreadN m, b < 256 := fun b hb => by
  obtain ⟨i, _, rfl⟩ := List.mem_map.1 hb
  exact oddOf_lt _ (Nat.mod_lt _ (by decide))
theorem gather_lt {m : List Nat} : ∀ b ∈ gatherN m, b < 256 := fun b hb => by
  obtain ⟨i, _, rfl⟩ := List.mem_map.1 hb
  exact Nat.mod_lt _ (by decide)
def nat8 (l : List Int) : List Nat := l.map Int.toNat
def f24 (l : List Int) : Option (List Int × Int) := if (∀ b ∈ l, 0 ≤ b ∧ b < 256) ∧ l.length ≤ 2 ^ 20 then some (if l.length = 7 then (nI (spreadN (nat8 l)), 0) else ([], 1)) else none
def f37 (l : List Int) : Option (List Int × Int) := if (∀ b ∈ l, 0 ≤ b ∧ b < 256) ∧ l.length ≤ 2 ^ 20 then some (if l.length = 8 then (nI (gatherN (nat8 l)), 0) else ([], 1)) else none
theorem f56_8 (n : Nat) (h : n < 256) : f56 (n : Int) 8 = some (nI (rowN n 8)) := by
  unfold f56
  rw [if_pos ⟨⟨by omega, by omega⟩, by omega, by omega⟩]; rfl
theorem E24 : EntOK FT XT 24 (en24 f24) := ok24 f25 E25 (fun a r h => ⟨20, by
  simp only [f24] at h
  split at h <;> try (cases h; done)
  rename_i hc
  obtain ⟨m, rfl, hm⟩ := allB_nat hc.1
  split at h
  · rename_i hl
    injection h with h; subst h
    unfold nat8; rw [nI_nat]
    exact p24_is f25_nat hm (by rw [← nI_len m]; exact hl)
  · rename_i hl
    injection h with h; subst h
    exact p24_bad hl⟩)
theorem E36 : EntOK FT XT 36 (en36 f24) := ok36 f56 f57 f25 E56 E57 E39 (fun a r h => ⟨20, by
  simp only [f24] at h
  split at h <;> try (cases h; done)
  rename_i hc
  obtain ⟨m, rfl, hm⟩ := allB_nat hc.1
  split at h
  · rename_i hl
    injection h with h; subst h
    unfold nat8; rw [nI_nat]
    exact p36_is f25_nat f56_8 (fun l hl h64 => f57_nI l hl h64) hm (by rw [← nI_len m]; exact hl)
  · rename_i hl
    injection h with h; subst h
    exact p36_bad hl⟩)
theorem E37 : EntOK FT XT 37 (en37 f37) := ok37 (fun a r h => ⟨20, by
  simp only [f37] at h
  split at h <;> try (cases h; done)
  rename_i hc
  obtain ⟨m, rfl, hm⟩ := allB_nat hc.1
  split at h
  · rename_i hl
    injection h with h; subst h
    unfold nat8; rw [nI_nat]
    exact p37_is hm (by rw [← nI_len m]; exact hl)
  · rename_i hl
    injection h with h; subst h
    exact p37_bad hl⟩)
theorem E38 : EntOK FT XT 38 (en38 f37) := ok38 f56 f57 E56 E57 (fun a r h => ⟨20, by
  simp only [f37] at h
  split at h <;> try (cases h; done)
  rename_i hc
  obtain ⟨m, rfl, hm⟩ := allB_nat hc.1
  split at h
  · rename_i hl
    injection h with h; subst h
    unfold nat8; rw [nI_nat]
    exact p38_is f56_8 (fun l hl h64 => f57_nI l hl h64) hm (by rw [← nI_len m]; exact hl)
  · rename_i hl
    injection h with h; subst h
    exact p38_bad hl⟩)
/-! ### gathered again -/
theorem half_spread (x : Nat) (hx : x < 2 ^ 56) : halfN ((List.range' 0 8).map (sp x)) = x := by
  have h : ∀ i, sp x i / 2 = x / 2 ^ (7 * (7 - i)) % 2 ^ 7 := fun i => oddOf_half _
  simp only [List.range', List.map_cons, List.map_nil, halfN, List.foldl_cons, List.foldl_nil, h]
  omega
theorem gather_spread {m : List Nat} (hb : ∀ b ∈ m, b < 256) (hm : m.length = 7) : gatherN (spreadN m) = m := by
  have hx : numN m < 2 ^ 56 := by
    have := num_lt m hb 0 0 (by decide)
    rw [hm] at this; exact this
  unfold gatherN
  rw [show halfN (spreadN m) = numN m from half_spread _ hx]
  match m, hm with
  | [b0, b1, b2, b3, b4, b5, b6], _ =>
    have h0 := hb b0 (by simp)
    have h1 := hb b1 (by simp)
    have h2 := hb b2 (by simp)
    have h3 := hb b3 (by simp)
    have h4 := hb b4 (by simp)
    have h5 := hb b5 (by simp)
    have h6 := hb b6 (by simp)
    simp only [List.range', List.map_cons, List.map_nil, ga, numN, List.foldl_cons, List.foldl_nil, List.cons.injEq, and_true]
    refine ⟨?_, ?_, ?_, ?_, ?_, ?_, ?_⟩ <;> omega
end Go.Proofs.YtgjbkgajkcgdfaaE
