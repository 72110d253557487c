/- The law RootsPrimes answers true. -/
import Derived.Test.YtilhmbjcpflodaaEvR6
namespace Go.Proofs.YtilhmbjcpflodaaE
open Go
set_option linter.unusedSimpArgs false
set_option linter.unusedVariables false
theorem blt2 {n : Nat} (h : 2 ≤ n) : Nat.blt n 2 = false := by
  rcases hb : Nat.blt n 2 with _ | _
  · rfl
  · rw [Nat.blt_eq] at hb; omega
theorem dvd_isP {n k : Nat} (hk : 2 ≤ k) (hkn : k < n) (hn : n < 1000) (hd : n % k = 0) : isP n = false := by
  have h3 := all_at t3 (show k < 1000 by omega)
  unfold T3 at h3
  rw [blt2 hk, Bool.false_or] at h3
  obtain ⟨p, hp, hd2⟩ := List.any_eq_true.1 h3
  have hpm := List.mem_filter.1 hp
  have hpl := hpm.2
  rw [Nat.blt_eq] at hpl
  have hkp : k % p = 0 := Nat.eq_of_beq_eq_true hd2
  have hnp : n % p = 0 := Nat.mod_eq_zero_of_dvd (Nat.dvd_trans (Nat.dvd_of_mod_eq_zero hkp) (Nat.dvd_of_mod_eq_zero hd))
  have hmem : p ∈ S n := List.mem_filter.2 ⟨hpm.1, by rw [Nat.blt_eq]; omega⟩
  unfold isP
  rcases hall : (S n).all (fun p => !Nat.beq (n % p) 0) with _ | _
  · exact Bool.and_false _
  · have := List.all_eq_true.1 hall p hmem
    rw [hnp] at this
    cases this
theorem isP_dvd {n : Nat} (h2 : 2 ≤ n) (h : isP n = false) : ∃ k, 2 ≤ k ∧ k < n ∧ n % k = 0 := by
  unfold isP at h
  rw [show Nat.ble 2 n = true from Nat.ble_eq ▸ h2, Bool.true_and] at h
  obtain ⟨p, hp, hd⟩ := List.all_eq_false.1 h
  have hpm := List.mem_filter.1 hp
  have hpl := hpm.2
  rw [Nat.blt_eq] at hpl
  refine ⟨p, (PL_ge hpm.1).1, hpl, ?_⟩
  rcases hb : Nat.beq (n % p) 0 with _ | _
  · rw [hb] at hd; exact absurd rfl hd
  · exact Nat.eq_of_beq_eq_true hb
theorem L82_in (N : Nat) (v5 : Int) (v6 : Nat) (n : Nat) (v9 : List Int) (q : Int → Nat → Int → Int → List Int → Option (List Int)) (hn : n < 1000) :
    ∀ d k fuel, k + d = n → d < fuel → 2 ≤ k → (∀ j, 2 ≤ j → j < k → n % j ≠ 0) → ∃ k', k' ≤ n ∧ 2 ≤ k' ∧ (∀ j, 2 ≤ j → j < k' → n % j ≠ 0) ∧ (k' = n ∨ n % k' = 0) ∧ L82_1 N q fuel v5 v6 (n : Int) (k : Int) v9 = q v5 v6 (n : Int) (k' : Int) v9 := by
  intro d
  induction d with
  | zero =>
    intro k fuel hd hf h2 hj
    obtain ⟨m, rfl⟩ : ∃ m, fuel = m + 1 := ⟨fuel - 1, by omega⟩
    refine ⟨k, by omega, h2, hj, Or.inl (by omega), ?_⟩
    simp only [L82_1, show ¬ ((k : Int) < (n : Int)) by omega, decide_false, cond_false]
  | succ d ih =>
    intro k fuel hd hf h2 hj
    obtain ⟨m, rfl⟩ : ∃ m, fuel = m + 1 := ⟨fuel - 1, by omega⟩
    by_cases h : n % k = 0
    · refine ⟨k, by omega, h2, hj, Or.inr h, ?_⟩
      simp only [L82_1, show ((k : Int) < (n : Int)) by omega, decide_true, cond_true, show ((k : Int) == 0) = false from beq_eq_false_iff_ne.2 (by omega), cond_false, irem_n, h]
      rfl
    · obtain ⟨k', h1, h3, h4, h5, h6⟩ := ih (k + 1) m (by omega) (by omega) (by omega) (fun j hj1 hj2 => by
        by_cases e : j = k
        · rw [e]; exact h
        · exact hj j hj1 (by omega))
      refine ⟨k', h1, h3, h4, h5, ?_⟩
      simp only [L82_1, show ((k : Int) < (n : Int)) by omega, decide_true, cond_true, show ((k : Int) == 0) = false from beq_eq_false_iff_ne.2 (by omega), cond_false, irem_n, show (((n % k : Nat) : Int) != 0) = true from bne_iff_ne.2 (by omega)]
      rw [up1 (by omega)]
      exact h6
theorem L82_out (a : Int) (Q : Nat → List Int → Option (List Int)) (hQ : ∀ s : List Nat, Q s.length (nI s) = some (nI s)) :
    ∀ d n fuel, n + d = 1000 → d < fuel → 2 ≤ n → (S n).length ≤ a.toNat → L82_0 2000 Q fuel a (S n).length (n : Int) (nI (S n)) = some (nI (PL.take a.toNat)) := by
  intro d
  induction d with
  | zero =>
    intro n fuel hd hf h2 hle
    obtain ⟨m, rfl⟩ : ∃ m, fuel = m + 1 := ⟨fuel - 1, by omega⟩
    obtain rfl : n = 1000 := by omega
    simp only [L82_0, show ¬ (((1000 : Nat) : Int) < 1000) by omega, decide_false, cond_false, hQ]
    rw [t5, t7] at hle
    rw [t5, List.take_of_length_le (by rw [t7]; exact hle)]
  | succ d ih =>
    intro n fuel hd hf h2 hle
    obtain ⟨m, rfl⟩ : ∃ m, fuel = m + 1 := ⟨fuel - 1, by omega⟩
    have hS := S_len n
    have hss := S_succ (show n < 1000 by omega)
    simp only [L82_0, show ((n : Int) < 1000) by omega, decide_true, cond_true]
    by_cases h : (((S n).length : Nat) : Int) < a
    · simp only [h, decide_true, cond_true]
      obtain ⟨k', h1, h3, h4, h5, h6⟩ := L82_in 2000 a (S n).length n (nI (S n)) (fun (y10 : Int) (y11 : Nat) (y12 : Int) (y13 : Int) (y14 : List Int) =>
            bif (y13 == y12) then
              bif (((List.length y14) == (y11 * 1)) && ((decide (((y11 + 1) * 8) ≤ 1099511627776)) && (decide ((y11 + 1) ≤ 1099511627776)))) then
                L82_0 2000 Q m y10 (y11 + 1) (iadd .i64 y12 (1 : Int)) (y14 ++ [y12])
              else none
            else
              L82_0 2000 Q m y10 y11 (iadd .i64 y12 (1 : Int)) y14) (by omega) (n - 2) 2 2000 (by omega) (by omega) (by omega) (fun j _ _ => by omega)
      refine Eq.trans h6 ?_
      unfold step at hss
      cases hp : isP n with
      | false =>
        rw [hp, cond_false, List.append_nil] at hss
        obtain ⟨k0, g1, g2, g3⟩ := isP_dvd h2 hp
        have hne : k' < n := by
          rcases Nat.lt_or_ge k0 k' with g | g
          · exact absurd g3 (h4 k0 g1 g)
          · omega
        simp only [show (((k' : Nat) : Int) == (n : Int)) = false from beq_eq_false_iff_ne.2 (by omega), cond_false]
        rw [up1 (by omega), ← hss]
        exact ih (n + 1) m (by omega) (by omega) (by omega) (by rw [hss]; exact hle)
      | true =>
        rw [hp, cond_true] at hss
        have hkn : k' = n := by
          rcases h5 with g | g
          · exact g
          · rcases Nat.lt_or_ge k' n with g2 | g2
            · rw [dvd_isP h3 g2 (by omega) g] at hp; cases hp
            · omega
        subst hkn
        have hl : (S (k' + 1)).length = (S k').length + 1 := by rw [hss]; simp
        have e : nI (S k') ++ [(k' : Int)] = nI (S (k' + 1)) := by rw [hss, ← nI_app]; rfl
        simp only [cond_true, nI_len, Nat.mul_one, beq_self_eq_true, show ((S k').length + 1) * 8 ≤ 1099511627776 by omega, show (S k').length + 1 ≤ 1099511627776 by omega, decide_true, Bool.and_self]
        rw [up1 (by omega), e, ← hl]
        exact ih (k' + 1) m (by omega) (by omega) (by omega) (by omega)
    · simp only [h, decide_false, cond_false, hQ]
      have e : a.toNat = (S n).length := by omega
      rw [e, ← S_take (by omega)]
theorem E82 : EntOK FT XT 82 (en82 f81) := ok82 (fun a r h => ⟨2000, by
  injection h with h; subst h
  unfold p82
  have := L82_out a (fun (y21 : Nat) (y22 : List Int) =>
      bif (decide ((0 + (y21 * 1)) ≤ (List.length y22))) then
        some (List.take y21 (List.drop 0 y22))
      else none) (fun s => by simp [nI_len, List.take_of_length_le]) 998 2 2000 (by omega) (by omega) (by omega) (by rw [t6]; simp)
  rw [t6] at this
  exact this⟩)
/-! ### the roots' bits of the first primes -/
def g78 (d : Int) (p : Nat) : Int := (kk78 (p : Int) d).getD 0
theorem g_is (d : Int) (p : Nat) : kk78 (p : Int) d = some (g78 d p) := by
  obtain ⟨r, h⟩ := k78_some (p : Int) d
  unfold g78; rw [h]; rfl
section
variable {c81 c82 : Int → Option (List Int)} {c78 c79 : Int → Int → Option Int} {c83 : Int → Int → Option (List Int)} {c80 : Option Bool}
theorem L83_is (Q : Nat → List Int → Option (List Int)) (l : List Nat) (d : Int) (g : Nat → Int) (hl : l.length ≤ 10) (hg : ∀ p ∈ l, c78 (p : Int) d = some (g p)) :
    ∀ j i fuel, i + j = l.length → j < fuel → L83_0 c81 c78 20 Q fuel d i (nI l) ((l.length : Nat) : Int) (i : Int) ((l.take i).map g) = Q l.length (l.map g) := by
  intro j
  induction j with
  | zero =>
    intro i fuel hd hf
    obtain ⟨m, rfl⟩ : ∃ m, fuel = m + 1 := ⟨fuel - 1, by omega⟩
    obtain rfl : i = l.length := by omega
    simp only [L83_0, show ¬ (((l.length : Nat) : Int) < ((l.length : Nat) : Int)) by omega, decide_false, cond_false, List.take_length]
  | succ j ih =>
    intro i fuel hd hf
    obtain ⟨m, rfl⟩ : ∃ m, fuel = m + 1 := ⟨fuel - 1, by omega⟩
    have hi : i < l.length := by omega
    have e : (l.take i).map g ++ [g l[i]] = (l.take (i + 1)).map g := by
      rw [List.take_add_one, List.getElem?_eq_getElem hi, List.map_append]; rfl
    have hlen : ((l.take i).map g).length = i := by rw [List.length_map, List.length_take]; omega
    simp only [L83_0, show ((i : Int) < ((l.length : Nat) : Int)) by omega, decide_true, cond_true, geti_nat, nI_getn hi, hg l[i] (List.getElem_mem hi), hlen, Nat.mul_one, beq_self_eq_true, show (i + 1) * 4 ≤ 1099511627776 by omega, show i + 1 ≤ 1099511627776 by omega, Bool.and_self, e]
    rw [up1 (by omega)]
    exact ih (i + 1) m (by omega) (by omega)
theorem p83_is {a d : Int} {l : List Nat} {g : Nat → Int} (F : c81 a = some (nI l)) (hl : l.length ≤ 10) (hg : ∀ p ∈ l, c78 (p : Int) d = some (g p)) : p83 c81 c78 20 a d = some (l.map g) := by
  rw [p83.eq_def]
  simp only [F, nI_len]
  refine (L83_is (c81 := c81) (c78 := c78) _ l d g hl hg l.length 0 20 (by omega) (by omega)).trans ?_
  simp [List.take_of_length_le]
theorem L68_0_is (N : Nat) (Q : Int → Int → List Int → Option Bool) (v3 v4 : Int) (l : List Nat) (hl : l.length ≤ 168) :
    ∀ d i fuel, i + d = l.length → d < fuel → L68_0 c81 c82 c83 c79 c80 N Q fuel v3 v4 (nI l) (nI l) ((l.length : Nat) : Int) (i : Int) = Q v3 v4 (nI l) := by
  intro d
  induction d with
  | zero =>
    intro i fuel hd hf
    obtain ⟨m, rfl⟩ : ∃ m, fuel = m + 1 := ⟨fuel - 1, by omega⟩
    simp only [L68_0, show ¬ ((i : Int) < ((l.length : Nat) : Int)) by omega, decide_false, cond_false]
  | succ d ih =>
    intro i fuel hd hf
    obtain ⟨m, rfl⟩ : ∃ m, fuel = m + 1 := ⟨fuel - 1, by omega⟩
    have hi : i < l.length := by omega
    simp only [L68_0, show ((i : Int) < ((l.length : Nat) : Int)) by omega, decide_true, cond_true, geti_nat, nI_getn hi, bne_self_eq_false, cond_false]
    rw [up1 (by omega)]
    exact ih (i + 1) m (by omega) (by omega)
theorem L68_1_is (N : Nat) (Q : Option Bool) (d : Int) (l : List Nat) (r : List Int) (hl : r.length ≤ 10) (hr : ∀ (i : Nat) (x : Int), r[i]? = some x → ∃ p : Nat, l[i]? = some p ∧ c79 (p : Int) d = some x) :
    ∀ j i fuel, i + j = r.length → j < fuel → L68_1 c81 c82 c83 c79 c80 N Q fuel d (nI l) r ((r.length : Nat) : Int) (i : Int) = Q := by
  intro j
  induction j with
  | zero =>
    intro i fuel hd hf
    obtain ⟨m, rfl⟩ : ∃ m, fuel = m + 1 := ⟨fuel - 1, by omega⟩
    simp only [L68_1, show ¬ ((i : Int) < ((r.length : Nat) : Int)) by omega, decide_false, cond_false]
  | succ j ih =>
    intro i fuel hd hf
    obtain ⟨m, rfl⟩ : ∃ m, fuel = m + 1 := ⟨fuel - 1, by omega⟩
    have hi : i < r.length := by omega
    have hx := List.getElem?_eq_getElem hi
    obtain ⟨p, h1, h2⟩ := hr i _ hx
    simp only [L68_1, show ((i : Int) < ((r.length : Nat) : Int)) by omega, decide_true, cond_true, geti_nat, hx, nI_get, h1, Option.map_some, h2, bne_self_eq_false, cond_false]
    rw [up1 (by omega)]
    exact ih (i + 1) m (by omega) (by omega)
theorem p68_is {a d : Int} {b : Bool} {l : List Nat} {r : List Int} (hd : d = if b then 3 else 2) (F1 : c81 a = some (nI l)) (F2 : c82 a = some (nI l)) (F3 : c83 (if (10 : Int) < a then (10 : Int) else a) d = some r) (hl : l.length ≤ 168) (hlen : ((r.length : Nat) : Int) = if (10 : Int) < ((l.length : Nat) : Int) then (10 : Int) else ((l.length : Nat) : Int))
    (hr : ∀ (i : Nat) (x : Int), r[i]? = some x → ∃ p : Nat, l[i]? = some p ∧ c79 (p : Int) d = some x) : p68 c81 c82 c83 c79 (some true) 2000 a b = some true := by
  have hr10 : r.length ≤ 10 := by split at hlen <;> omega
  rw [p68.eq_def]
  cases b with
  | true =>
    simp only [if_true] at hd
    subst hd
    simp only [cond_true, F1, F2, nI_len, bne_self_eq_false, cond_false]
    refine (L68_0_is (c81 := c81) (c82 := c82) (c83 := c83) (c79 := c79) (c80 := some true) 2000 _ a 3 l hl l.length 0 2000 (by omega) (by omega)).trans ?_
    simp only [F3, nI_len, ← hlen, bne_self_eq_false, cond_false]
    exact L68_1_is (c81 := c81) (c82 := c82) (c83 := c83) (c79 := c79) (c80 := some true) 2000 _ 3 l r hr10 hr r.length 0 2000 (by omega) (by omega)
  | false =>
    simp only [Bool.false_eq_true, if_false] at hd
    subst hd
    simp only [cond_false, F1, F2, nI_len, bne_self_eq_false]
    refine (L68_0_is (c81 := c81) (c82 := c82) (c83 := c83) (c79 := c79) (c80 := some true) 2000 _ a 2 l hl l.length 0 2000 (by omega) (by omega)).trans ?_
    simp only [F3, nI_len, ← hlen, bne_self_eq_false, cond_false]
    exact L68_1_is (c81 := c81) (c82 := c82) (c83 := c83) (c79 := c79) (c80 := some true) 2000 _ 2 l r hr10 hr r.length 0 2000 (by omega) (by omega)
end
def f83 (a d : Int) : Option (List Int) := if a ≤ 10 then some ((PL.take a.toNat).map (g78 d)) else none
theorem E83 : EntOK FT XT 83 (en83 f83) := ok83 f81 kk78 E81 E78 (fun a d r h => ⟨20, by
  simp only [f83] at h
  split at h <;> try (cases h; done)
  rename_i hc
  injection h with h; subst h
  have hg : ∀ p ∈ PL.take a.toNat, kk78 (p : Int) d = some (g78 d p) := fun p hp => g_is d p
  have F : f81 a = some (nI (PL.take a.toNat)) := by unfold f81; exact rfl
  have hl : (PL.take a.toNat).length ≤ 10 := by rw [List.length_take]; omega
  generalize PL.take a.toNat = l at *
  exact p83_is F hl hg⟩)
def f68 (a : Int) (b : Bool) : Option Bool := some true
theorem E68 : EntOK FT XT 68 (en68 f68) := ok68 f81 f81 f83 kk78 f80 E81 E82 E83 E79 E80 (fun a b r h => ⟨2000, by
  injection h with h; subst h
  have F : f81 a = some (nI (PL.take a.toNat)) := by unfold f81; exact rfl
  have hlen : (PL.take a.toNat).length = min a.toNat 168 := by rw [List.length_take, t7]
  have hd : (if b then (3 : Int) else 2) = 2 ∨ (if b then (3 : Int) else 2) = 3 := by cases b <;> simp
  generalize hdd : (if b then (3 : Int) else 2) = d at hd
  have F3 : f83 (if (10 : Int) < a then (10 : Int) else a) d = some ((PL.take (min a.toNat 10)).map (g78 d)) := by
    unfold f83
    rw [if_pos (by split <;> omega), show (if (10 : Int) < a then (10 : Int) else a).toNat = min a.toNat 10 by split <;> omega]
  have h10 : ((PL.take (min a.toNat 10)).map (g78 d)).length = min a.toNat 10 := by rw [List.length_map, List.length_take, t7]; omega
  have hr : ∀ (i : Nat) (x : Int), ((PL.take (min a.toNat 10)).map (g78 d))[i]? = some x → ∃ p : Nat, (PL.take a.toNat)[i]? = some p ∧ kk78 (p : Int) d = some x := by
    intro i x hx
    have hi := lt_of hx
    rw [h10] at hi
    rw [List.getElem?_map] at hx
    obtain ⟨p, hp, rfl⟩ := Option.map_eq_some_iff.1 hx
    rw [List.getElem?_take_of_lt hi] at hp
    exact ⟨p, by rw [List.getElem?_take_of_lt (by omega)]; exact hp, g_is d p⟩
  rw [F80]
  generalize PL.take a.toNat = l at *
  generalize (PL.take (min a.toNat 10)).map (g78 d) = r at *
  exact p68_is hdd.symm F F F3 (by omega) (by rw [h10, hlen]; split <;> omega) hr⟩)
theorem law68 (z0 : Int) (z1 : Bool) (h0 : (Lit.int .i64 z0).wf = true) (h1 : True) :
    Ans FT XT 68 (encL [Sh.int .i64, Sh.bool] (z0, (z1, ()))) [] (.bool true) [] :=
  E68.2 (z0, (z1, ())) true rfl
end Go.Proofs.YtilhmbjcpflodaaE
