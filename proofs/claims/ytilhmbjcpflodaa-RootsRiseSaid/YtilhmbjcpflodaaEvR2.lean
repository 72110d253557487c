/- Chapter 2: the program's primes. -/
import Derived.Test.YtilhmbjcpflodaaEvR1
namespace Go.Proofs.YtilhmbjcpflodaaE
open Go
set_option linter.unusedSimpArgs false
set_option linter.unusedVariables false
theorem all_at {T : Nat → Bool} {m : Nat} (h : (List.range m).all T = true) {n : Nat} (hn : n < m) : T n = true := List.all_eq_true.1 h n (List.mem_range.2 hn)
theorem S_succ {n : Nat} (h : n < 1000) : S (n + 1) = S n ++ step n := eq_of_beq (all_at t1 h)
theorem S_take {n : Nat} (h : n ≤ 1000) : S n = PL.take (S n).length := eq_of_beq (all_at t2 (show n < 1001 by omega))
theorem S_len (n : Nat) : (S n).length ≤ 168 := by rw [← t7]; exact List.length_filter_le _ _
theorem PL_ge {p : Nat} (h : p ∈ PL) : 2 ≤ p ∧ p < 1000 := by
  have := List.all_eq_true.1 t8 p h
  simp only [Bool.and_eq_true, Nat.ble_eq, Nat.blt_eq] at this
  exact this
theorem S_mem {p n : Nat} (h : p ∈ S n) : p ∈ PL := (List.mem_filter.1 h).1
theorem L81_in (N k : Nat) (n : Nat) (v5 : Int) (q1 q2 : Int → Nat → Int → List Int → Option (List Int)) (s : List Nat) (hs : ∀ p ∈ s, 2 ≤ p) (hl : s.length ≤ 168) :
    ∀ d i fuel, i + d = s.length → d < fuel → L81_1 N q1 q2 fuel v5 k (n : Int) s.length ((s.length : Nat) : Int) (i : Int) (nI s) = bif (s.drop i).all (fun p => !Nat.beq (n % p) 0) then q2 v5 k (n : Int) (nI s) else q1 v5 k (n : Int) (nI s) := by
  intro d
  induction d with
  | zero =>
    intro i fuel hd hf
    obtain ⟨m, rfl⟩ : ∃ m, fuel = m + 1 := ⟨fuel - 1, by omega⟩
    rw [List.drop_of_length_le (by omega)]
    simp only [L81_1, show ¬ ((i : Int) < ((s.length : Nat) : Int)) by omega, decide_false, cond_false, List.all_nil, cond_true]
  | succ d ih =>
    intro i fuel hd hf
    obtain ⟨m, rfl⟩ : ∃ m, fuel = m + 1 := ⟨fuel - 1, by omega⟩
    have hi : i < s.length := by omega
    have h2 := hs s[i] (List.getElem_mem hi)
    rw [List.drop_eq_getElem_cons hi, List.all_cons]
    simp only [L81_1, show ((i : Int) < ((s.length : Nat) : Int)) by omega, show (0 : Int) ≤ (i : Int) by omega, decide_true, Bool.and_self, cond_true, Int.toNat_natCast, Nat.mul_one, Nat.zero_add, nI_getn hi, show (((s[i] : Nat) : Int) == 0) = false from beq_eq_false_iff_ne.2 (by omega), cond_false, irem_n]
    by_cases h : n % s[i] = 0
    · simp [h]
    · have e : Nat.beq (n % s[i]) 0 = false := by
        rcases hb : Nat.beq (n % s[i]) 0 with _ | _
        · rfl
        · exact absurd (Nat.eq_of_beq_eq_true hb) h
      have e2 : (((n % s[i] : Nat) : Int) == 0) = false := beq_eq_false_iff_ne.2 (by omega)
      rw [e, e2, up1 (by omega)]
      simpa using ih (i + 1) m (by omega) (by omega)
def f81 (a : Int) : Option (List Int) := some (nI (PL.take a.toNat))
theorem L81_out (a : Int) (Q : Nat → List Int → Option (List Int)) (hQ : ∀ s : List Nat, Q s.length (nI s) = some (nI s)) :
    ∀ d n fuel, n + d = 1000 → d < fuel → 2 ≤ n → (S n).length ≤ a.toNat → L81_0 2000 Q fuel a (S n).length (n : Int) (nI (S n)) = some (nI (PL.take a.toNat)) := by
  intro d
  induction d with
  | zero =>
    intro n fuel hd hf h2 hle
    obtain ⟨m, rfl⟩ : ∃ m, fuel = m + 1 := ⟨fuel - 1, by omega⟩
    obtain rfl : n = 1000 := by omega
    simp only [L81_0, show ¬ (((1000 : Nat) : Int) < 1000) by omega, decide_false, cond_false, hQ]
    rw [t5, t7] at hle
    rw [t5, List.take_of_length_le (by rw [t7]; exact hle)]
  | succ d ih =>
    intro n fuel hd hf h2 hle
    obtain ⟨m, rfl⟩ : ∃ m, fuel = m + 1 := ⟨fuel - 1, by omega⟩
    have hS := S_len n
    have hss := S_succ (show n < 1000 by omega)
    simp only [L81_0, show ((n : Int) < 1000) by omega, decide_true, cond_true]
    by_cases h : (((S n).length : Nat) : Int) < a
    · simp only [h, decide_true, cond_true]
      have key := L81_in 2000 (S n).length n a (fun (y13 : Int) (y14 : Nat) (y15 : Int) (y16 : List Int) =>
            L81_0 2000 Q m y13 y14 (iadd .i64 y15 (1 : Int)) y16) (fun (y17 : Int) (y18 : Nat) (y19 : Int) (y20 : List Int) =>
            bif (((List.length y20) == (y18 * 1)) && ((decide (((y18 + 1) * 8) ≤ 1099511627776)) && (decide ((y18 + 1) ≤ 1099511627776)))) then
              L81_0 2000 Q m y17 (y18 + 1) (iadd .i64 y19 (1 : Int)) (y20 ++ [y19])
            else none) (S n) (fun p hp => (PL_ge (S_mem hp)).1) hS (S n).length 0 2000 (by omega) (by omega)
      refine Eq.trans key ?_
      rw [List.drop_zero]
      have hP : isP n = (S n).all fun p => !Nat.beq (n % p) 0 := by unfold isP; rw [show Nat.ble 2 n = true from Nat.ble_eq ▸ h2, Bool.true_and]
      rw [← hP]
      unfold step at hss
      cases hp : isP n with
      | false =>
        rw [hp, cond_false, List.append_nil] at hss
        simp only [cond_false]
        rw [up1 (by omega), ← hss]
        exact ih (n + 1) m (by omega) (by omega) (by omega) (by rw [hss]; exact hle)
      | true =>
        rw [hp, cond_true] at hss
        have hl : (S (n + 1)).length = (S n).length + 1 := by rw [hss]; simp
        have e : nI (S n) ++ [(n : Int)] = nI (S (n + 1)) := by rw [hss, ← nI_app]; rfl
        simp only [cond_true, nI_len, Nat.mul_one, beq_self_eq_true, show ((S n).length + 1) * 8 ≤ 1099511627776 by omega, show (S n).length + 1 ≤ 1099511627776 by omega, decide_true, Bool.and_self]
        rw [up1 (by omega), e, ← hl]
        exact ih (n + 1) m (by omega) (by omega) (by omega) (by omega)
    · simp only [h, decide_false, cond_false, hQ]
      have e : a.toNat = (S n).length := by omega
      rw [e, ← S_take (by omega)]
theorem E81 : EntOK FT XT 81 (en81 f81) := ok81 (fun a r h => ⟨2000, by
  injection h with h; subst h
  unfold p81
  have := L81_out a (fun (y21 : Nat) (y22 : List Int) =>
      bif (decide ((0 + (y21 * 1)) ≤ (List.length y22))) then
        some (List.take y21 (List.drop 0 y22))
      else none) (fun s => by simp [nI_len, List.take_of_length_le]) 998 2 2000 (by omega) (by omega) (by omega) (by rw [t6]; simp)
  rw [t6] at this
  exact this⟩)
end Go.Proofs.YtilhmbjcpflodaaE
