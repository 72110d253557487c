/- Chapter 18: packets parsed. -/
import Derived.Test.YteagngpgghnlmaaEvC180
namespace Go.Proofs.YteagngpgghnlmaaE
open Go
set_option linter.unusedSimpArgs false
set_option linter.unusedVariables false
set_option maxRecDepth 4000

/-! ### how long -/
def len18 : List Nat → Nat × Nat
  | w :: x :: y :: v :: _ => if w ≠ 16 then (0, 15) else if 1 < x ∨ y * 256 + v < (if x = 1 then 8 else 5) ∨ 4095 < y * 256 + v then (0, 3) else (y * 256 + v, 0)
  | _ => (0, 4)
theorem len18_short {b : List Nat} (h : b.length < 4) : len18 b = (0, 4) := by
  match b, h with
  | [], _ => rfl
  | [_], _ => rfl
  | [_, _], _ => rfl
  | [_, _, _], _ => rfl
abbrev enN (x : Nat × Nat) : Int × Int := (((x.1 : Nat) : Int), ((x.2 : Nat) : Int))
def h343 (b : List Int) := p343 h21 0 b
theorem E343 : EntOK FT XT 343 (en343 h343) := ok343 h21 E21 fun _ _ h => ⟨0, h⟩
theorem h343_is {b : List Nat} (hb : bel 256 b) : h343 (nI b) = some (enN (len18 b)) := by
  unfold h343 p343
  simp only [nI_len, Bool.cond_eq_ite, decide_eq_true_eq, bne_iff_ne]
  by_cases h4 : b.length < 4
  · rw [if_pos (by omega), len18_short h4]; rfl
  rw [if_neg (by omega), if_pos (show (4 : Int) ≤ ((b.length : Nat) : Int) by omega)]
  match b, hb, h4 with
  | [], _, h => exact absurd (by simp) h
  | [_], _, h => exact absurd (by simp) h
  | [_, _], _, h => exact absurd (by simp) h
  | [_, _, _], _, h => exact absurd (by simp) h
  | w :: x :: y :: v :: r, hb, _ =>
    have hy : y < 256 := hb y (by simp)
    have hv : v < 256 := hb v (by simp)
    simp only [nI_cons, List.drop_succ_cons, List.drop_zero, List.take_succ_cons, List.take_zero, get_be2 hy hv, geti_c0, geti_c1, wrap_i64 (x := ((y * 256 + v : Nat) : Int)) (by omega) (by omega), len18, beq_iff_eq]
    by_cases g0 : w = 16
    · rw [if_neg (show ¬ (w : Int) ≠ 16 by omega), if_neg (show ¬ w ≠ 16 by omega)]
      by_cases g1 : x = 1
      · rw [if_pos (show (x : Int) = 1 by omega), if_neg (show ¬ (x : Int) > 1 by omega)]
        by_cases g2 : y * 256 + v < 8
        · rw [if_pos (by omega), if_pos (by rw [if_pos g1]; omega)]; rfl
        rw [if_neg (by omega)]
        by_cases g3 : 4095 < y * 256 + v
        · rw [if_pos (by omega), if_pos (by omega)]; rfl
        · rw [if_neg (by omega), if_neg (by rw [if_pos g1]; omega)]; rfl
      · rw [if_neg (show ¬ (x : Int) = 1 by omega)]
        by_cases g2 : 1 < x
        · rw [if_pos (by omega), if_pos (.inl g2)]; rfl
        rw [if_neg (by omega)]
        by_cases g2 : y * 256 + v < 5
        · rw [if_pos (by omega), if_pos (by rw [if_neg g1]; omega)]; rfl
        rw [if_neg (by omega)]
        by_cases g3 : 4095 < y * 256 + v
        · rw [if_pos (by omega), if_pos (by omega)]; rfl
        · rw [if_neg (by omega), if_neg (by rw [if_neg g1]; omega)]; rfl
    · rw [if_pos (show (w : Int) ≠ 16 by omega), if_pos g0]; rfl
def h344 (b : List Int) := p344 h51 0 b
theorem E344 : EntOK FT XT 344 (en344 h344) := ok344 h51 E51 fun _ _ h => ⟨0, h⟩
theorem h344_is {b : List Nat} (hb : bel 256 b) : h344 (nI b) = some (enN (len18 b)) := by
  unfold h344 p344
  simp only [nI_len, Bool.cond_eq_ite, decide_eq_true_eq, bne_iff_ne]
  by_cases h4 : b.length < 4
  · rw [if_pos (by omega), len18_short h4]; rfl
  rw [if_neg (by omega), if_pos (show (4 : Int) ≤ ((b.length : Nat) : Int) by omega)]
  match b, hb, h4 with
  | [], _, h => exact absurd (by simp) h
  | [_], _, h => exact absurd (by simp) h
  | [_, _], _, h => exact absurd (by simp) h
  | [_, _, _], _, h => exact absurd (by simp) h
  | w :: x :: y :: v :: r, hb, _ =>
    have hy : y < 256 := hb y (by simp)
    have hv : v < 256 := hb v (by simp)
    simp only [nI_cons, List.drop_succ_cons, List.drop_zero, List.take_succ_cons, List.take_zero, h51_2 hy hv, geti_c0, geti_c1, wrap_i64 (x := ((y * 256 + v : Nat) : Int)) (by omega) (by omega), len18, beq_iff_eq]
    by_cases g0 : w = 16
    · rw [if_neg (show ¬ (w : Int) ≠ 16 by omega), if_neg (show ¬ w ≠ 16 by omega)]
      by_cases g2 : 1 < x
      · rw [if_pos (by omega), if_pos (.inl g2)]; rfl
      rw [if_neg (by omega)]
      by_cases g5 : y * 256 + v < 5
      · rw [if_pos (by omega), if_pos (by split <;> omega)]; rfl
      rw [if_neg (by omega)]
      by_cases g1 : x = 1
      · rw [if_pos (show (x : Int) = 1 by omega)]
        by_cases g2 : y * 256 + v < 8
        · rw [if_pos (by omega), if_pos (by rw [if_pos g1]; omega)]; rfl
        rw [if_neg (by omega)]
        by_cases g3 : 4095 < y * 256 + v
        · rw [if_pos (by omega), if_pos (by omega)]; rfl
        · rw [if_neg (by omega), if_neg (by rw [if_pos g1]; omega)]; rfl
      · rw [if_neg (show ¬ (x : Int) = 1 by omega)]
        by_cases g3 : 4095 < y * 256 + v
        · rw [if_pos (by omega), if_pos (by omega)]; rfl
        · rw [if_neg (by omega), if_neg (by rw [if_neg g1]; omega)]; rfl
    · rw [if_pos (show (w : Int) ≠ 16 by omega), if_pos g0]; rfl
/-! ### attributes parsed -/
theorem parse17_le {b : List Nat} (h : (parse17 b).2.2 = 0) : (parse17 b).2.1 ≤ b.length ∧ 4 ≤ (parse17 b).2.1 := by
  unfold parse17 at h ⊢
  split at h
  · rename_i w x y v r
    split at h
    · cases h
    rename_i h1
    split at h
    · cases h
    split at h
    · cases h
    rename_i h2 h3
    simp only [if_neg h1, if_neg h2, if_neg h3, List.length_cons]
    omega
  · cases h
theorem parse17_at {b : List Nat} (hb : bel 256 b) : (parse17 b).1.1 < 256 ∧ bel 256 (parse17 b).1.2 ∧ (parse17 b).1.2.length ≤ 5000 := by
  refine ⟨?_, parse17_bel hb, ?_⟩
  · unfold parse17
    split
    · rename_i w x y v r
      split
      · exact Nat.zero_lt_succ _
      split
      · exact Nat.zero_lt_succ _
      split
      · exact Nat.zero_lt_succ _
      exact hb x (by simp)
    · exact Nat.zero_lt_succ _
  · unfold parse17
    split
    · rename_i w x y v r
      split
      · exact Nat.zero_le _
      rename_i h1
      split
      · exact Nat.zero_le _
      split
      · exact Nat.zero_le _
      show (r.take _).length ≤ _
      rw [List.length_take]; omega
    · exact Nat.zero_le _
def parL : Nat → List Nat → List At × List Nat × Nat
  | 0, b => ([], b, 0)
  | n + 1, b => if (parse17 b).2.2 = 0 then (if (parL n (b.drop (parse17 b).2.1)).2.2 = 0 then ((parse17 b).1 :: (parL n (b.drop (parse17 b).2.1)).1, (parL n (b.drop (parse17 b).2.1)).2.1, 0) else ([], [], (parL n (b.drop (parse17 b).2.1)).2.2)) else ([], [], (parse17 b).2.2)
theorem parL_1 {n : Nat} {b : List Nat} (h : (parse17 b).2.2 = 0) (g : (parL n (b.drop (parse17 b).2.1)).2.2 = 0) : parL (n + 1) b = ((parse17 b).1 :: (parL n (b.drop (parse17 b).2.1)).1, (parL n (b.drop (parse17 b).2.1)).2.1, 0) := (if_pos h).trans (if_pos g)
theorem parL_2 {n : Nat} {b : List Nat} (h : (parse17 b).2.2 = 0) (g : (parL n (b.drop (parse17 b).2.1)).2.2 ≠ 0) : parL (n + 1) b = ([], [], (parL n (b.drop (parse17 b).2.1)).2.2) := (if_pos h).trans (if_neg g)
theorem parL_3 {n : Nat} {b : List Nat} (h : (parse17 b).2.2 ≠ 0) : parL (n + 1) b = ([], [], (parse17 b).2.2) := if_neg h
theorem parL_good : ∀ (n : Nat) (b : List Nat), bel 256 b → gA (parL n b).1 ∧ (parL n b).1.length ≤ n
  | 0, b, _ => ⟨(fun x hx => by cases hx), Nat.le_refl _⟩
  | n + 1, b, hb => by
    obtain ⟨h1, h2⟩ := parL_good n (b.drop (parse17 b).2.1) (bel_drop hb)
    by_cases h : (parse17 b).2.2 = 0
    · by_cases g : (parL n (b.drop (parse17 b).2.1)).2.2 = 0
      · rw [parL_1 h g]
        refine ⟨fun x hx => ?_, by simp; exact h2⟩
        rcases List.mem_cons.1 hx with rfl | hx
        · exact parse17_at hb
        · exact h1 x hx
      · rw [parL_2 h g]; exact ⟨(fun x hx => by cases hx), Nat.zero_le _⟩
    · rw [parL_3 h]; exact ⟨(fun x hx => by cases hx), Nat.zero_le _⟩
theorem flat_at (acc : List At) (a : At) : flat shA (nA acc) ++ [(V.int .u8 ((a.1 : Nat) : Int)), (V.tb (Sh.int .u8) (nI a.2))] = flat shA (nA (acc ++ [a])) := by
  rw [nA_snoc, flat_snoc]; rfl
theorem L359_is {N : Nat} {q : List Int → Nat → List V → Option ((List (Int × (List Int))) × Int)} : ∀ (d i : Nat) (b : List Nat) (acc : List At) (k n fuel : Nat), k = acc.length → i + d = n → n ≤ 1000 → d < fuel → bel 256 b → b.length ≤ 100000 → acc.length + d ≤ 1000 →
    L359_0 h142 N q fuel (nI b) k ((n : Nat) : Int) ((i : Nat) : Int) (flat shA (nA acc)) = if (parL d b).2.2 = 0 then q (nI (parL d b).2.1) (acc ++ (parL d b).1).length (flat shA (nA (acc ++ (parL d b).1))) else some ([], ((parL d b).2.2 : Int))
  | 0, i, b, acc, k, n, fuel + 1, hk, hi, _, _, _, _, _ => by
    rw [L359_0, decide_eq_false (by omega), cond_false]
    rw [if_pos (show (parL 0 b).2.2 = 0 from rfl), show (parL 0 b).1 = [] from rfl, List.append_nil, hk]; rfl
  | d + 1, i, b, acc, k, n, fuel + 1, hk, hi, hn, hf, hb, hl, ha => by
    have e : h142 (nI b) = some (enP (parse17 b)) := h142_is hb hl
    rw [L359_0, decide_eq_true (by omega), cond_true]
    simp only [e, enP, flatA_len, nA_len, nI_len]
    by_cases h : (parse17 b).2.2 = 0
    · obtain ⟨hle, _⟩ := parse17_le h
      have ih := L359_is (N := N) (q := q) d (i + 1) (b.drop (parse17 b).2.1) (acc ++ [(parse17 b).1]) (k + 1) n fuel (by simp [hk]) (by omega) hn (by omega) (bel_drop hb) (by rw [List.length_drop]; omega) (by simp; omega)
      rw [h, show (((0 : Nat) : Int) != 0) = false from rfl, cond_false, show (acc.length * 2 == k * 2) = true from beq_iff_eq.2 (by omega), Bool.true_and, decide_eq_true (by omega), decide_eq_true (by omega), Bool.and_self, cond_true, decide_eq_true (by omega), decide_eq_true (by omega), Bool.and_self, cond_true, Int.toNat_natCast, nI_drop, flat_at, show iadd .u64 ((i : Nat) : Int) 1 = ((i + 1 : Nat) : Int) from addu (a := i) (b := 1) (by omega), ih]
      by_cases g : (parL d (b.drop (parse17 b).2.1)).2.2 = 0
      · rw [parL_1 h g, if_pos g, if_pos rfl, List.append_assoc]; rfl
      · rw [parL_2 h g, if_neg g, if_neg g]
    · rw [parL_3 h, if_neg h, bne_iff_ne.2 (by omega), cond_true]
def par18 (n : Nat) (b : List Nat) : List At × Nat :=
  if 8 < n then ([], 5) else if (parL n b).2.2 = 0 then (if 0 < (parL n b).2.1.length then ([], 3) else ((parL n b).1, 0)) else ([], (parL n b).2.2)
theorem par18_good {n : Nat} {b : List Nat} (hb : bel 256 b) : gA (par18 n b).1 ∧ (par18 n b).1.length ≤ 12 := by
  have h := parL_good n b hb
  unfold par18
  split
  · exact ⟨(fun x hx => by cases hx), Nat.zero_le _⟩
  split
  · split
    · exact ⟨(fun x hx => by cases hx), Nat.zero_le _⟩
    · exact ⟨h.1, Nat.le_trans h.2 (by omega)⟩
  · exact ⟨(fun x hx => by cases hx), Nat.zero_le _⟩
theorem rows_at {k : Nat} {l : List At} (hk : k = l.length) (h : l.length ≤ 1000) : rowsOf shA k (List.take (k * 2) (List.drop 0 (flat shA (nA l)))) = some (nA l) := by
  have hl : k * 2 = (flat shA (nA l)).length := by rw [flatA_len, nA_len, hk]
  have := rowsA_of (L := nA l) (by rw [nA_len]; omega)
  rw [nA_len] at this
  rw [hl, List.drop_zero, List.take_length, hk]; exact this
theorem rows_at2 {k : Nat} {l : List At} (hk : k = l.length) (h : l.length ≤ 1000) : rowsOf shA k (List.take (k * 2) (flat shA (nA l))) = some (nA l) := rows_at hk h
def h359 (b : List Int) (n : Int) := p359 h142 20 b n
theorem E359 : EntOK FT XT 359 (en359 h359) := ok359 h142 E142 fun _ _ _ h => ⟨20, h⟩
theorem h359_is {n : Nat} {b : List Nat} (hb : bel 256 b) (hl : b.length ≤ 100000) : h359 (nI b) (n : Int) = some (nA (par18 n b).1, ((par18 n b).2 : Int)) := by
  unfold h359 p359 par18
  by_cases h : 8 < n
  · rw [decide_eq_true (by omega), cond_true, if_pos h]; rfl
  rw [decide_eq_false (by omega), cond_false, if_neg h]
  refine (L359_is (N := 20) n 0 b [] 0 n 20 rfl (by omega) (by omega) (by omega) hb hl (by simp; omega)).trans ?_
  have hg := parL_good n b hb
  by_cases g : (parL n b).2.2 = 0
  · rw [if_pos g, if_pos g, List.nil_append, nI_len]
    by_cases g2 : 0 < (parL n b).2.1.length
    · rw [if_pos g2, decide_eq_true (by omega), cond_true]; rfl
    · rw [if_neg g2, decide_eq_false (by omega), cond_false, flatA_len, nA_len, decide_eq_true (by omega), cond_true, rows_at rfl (by omega)]; rfl
  · rw [if_neg g, if_neg g]; rfl
/-! ### packets parsed -/
def zero18 : Pk := (false, 0, [], [])
def take18 : List Nat → Pk × Nat
  | _ :: 0 :: _ :: _ :: r => ((false, 0, [], r), 0)
  | _ :: _ :: _ :: _ :: y :: v :: s :: u :: r => if (par18 (s * 256 + u) r).2 = 0 then ((true, y * 256 + v, (par18 (s * 256 + u) r).1, []), 0) else (zero18, (par18 (s * 256 + u) r).2)
  | _ => (zero18, 4)
def parse18 (b : List Nat) : Pk × Nat :=
  if (len18 b).2 ≠ 0 then (zero18, (len18 b).2) else if b.length < (len18 b).1 then (zero18, 4) else if (len18 b).1 < b.length then (zero18, 3) else take18 b
abbrev enQ (x : Pk × Nat) : PkI × Int := (enK x.1, ((x.2 : Nat) : Int))
theorem len18_ok {b : List Nat} (h : (len18 b).2 = 0) : ∃ x y v r, b = 16 :: x :: y :: v :: r ∧ (x = 0 ∨ x = 1) ∧ (len18 b).1 = y * 256 + v ∧ (x = 1 → 8 ≤ y * 256 + v) ∧ 5 ≤ y * 256 + v ∧ y * 256 + v ≤ 4095 := by
  match b, h with
  | [], h => cases h
  | [_], h => cases h
  | [_, _], h => cases h
  | [_, _, _], h => cases h
  | w :: x :: y :: v :: r, h =>
    by_cases h1 : w ≠ 16
    · rw [show len18 (w :: x :: y :: v :: r) = (0, 15) from if_pos h1] at h; cases h
    by_cases h2 : 1 < x ∨ y * 256 + v < (if x = 1 then 8 else 5) ∨ 4095 < y * 256 + v
    · rw [show len18 (w :: x :: y :: v :: r) = (0, 3) from (if_neg h1).trans (if_pos h2)] at h; cases h
    rw [show len18 (w :: x :: y :: v :: r) = (y * 256 + v, 0) from (if_neg h1).trans (if_neg h2)]
    have hw : w = 16 := by omega
    subst hw
    refine ⟨x, y, v, r, rfl, by omega, rfl, fun g => by rw [if_pos g] at h2; omega, ?_, by omega⟩
    by_cases g : x = 1
    · rw [if_pos g] at h2; omega
    · rw [if_neg g] at h2; omega
def h341 (b : List Int) := p341 h343 h346 h21 h359 h316 0 b
theorem E341 : EntOK FT XT 341 (en341 h341) := ok341 h343 h346 h21 h359 h316 E343 E346 E21 E359 E316 fun _ _ h => ⟨0, h⟩
theorem h341_is {b : List Nat} (hb : bel 256 b) (hl : b.length ≤ 100000) : h341 (nI b) = some (enQ (parse18 b)) := by
  unfold h341 p341 parse18
  rw [h343_is hb]
  simp only [enN, nI_len]
  by_cases h : (len18 b).2 = 0
  · rw [if_neg (show ¬ (len18 b).2 ≠ 0 from fun g => g h), h, show (((0 : Nat) : Int) != 0) = false from rfl, cond_false]
    by_cases h1 : b.length < (len18 b).1
    · rw [if_pos h1, decide_eq_true (by omega), cond_true]; rfl
    rw [if_neg h1, decide_eq_false (by omega), cond_false]
    by_cases h2 : (len18 b).1 < b.length
    · rw [if_pos h2, decide_eq_true (by omega), cond_true]; rfl
    rw [if_neg h2, decide_eq_false (by omega), cond_false]
    obtain ⟨x, y, v, r, rfl, hx, hn, h8, h5, _⟩ := len18_ok h
    rw [hn] at h1 h2
    simp only [List.length_cons] at h1 h2 hl
    simp only [nI_cons, geti_c1]
    rcases hx with rfl | rfl
    · rw [show (((0 : Nat) : Int) == 0) = true from rfl, cond_true]
      simp only [List.drop_succ_cons, List.drop_zero, List.length_cons]
      rw [decide_eq_true (by omega), cond_true, h346_is (by rw [nI_len]; omega)]; rfl
    · rw [show (((1 : Nat) : Int) == 0) = false from rfl, cond_false]
      have h8 := h8 rfl
      match r, hb, h1, h2, hl with
      | [], _, h1, h2, _ => simp at h1 h2; omega
      | [_], _, h1, h2, _ => simp at h1 h2; omega
      | [_, _], _, h1, h2, _ => simp at h1 h2; omega
      | [_, _, _], _, h1, h2, _ => simp at h1 h2; omega
      | a :: c :: s :: u :: r, hb, _, _, hl =>
        have ha : a < 256 := hb a (by simp)
        have hc : c < 256 := hb c (by simp)
        have hs : s < 256 := hb s (by simp)
        have hu : u < 256 := hb u (by simp)
        have hr : bel 256 r := fun z hz => hb z (by simp [hz])
        have hg := (par18_good (n := s * 256 + u) hr).2
        simp only [nI_cons, List.drop_succ_cons, List.drop_zero, List.take_succ_cons, List.take_zero, List.length_cons, get_be2 ha hc, get_be2 hs hu]
        rw [decide_eq_true (by omega), decide_eq_true (by omega), cond_true, cond_true]
        simp only [h359_is (n := s * 256 + u) hr (by simp at hl; omega), w16, Nat.mod_eq_of_lt (show a * 256 + c < 65536 by omega)]
        show _ = some (enQ (if _ then _ else _))
        by_cases g : (par18 (s * 256 + u) r).2 = 0
        · rw [if_pos g, g, show (((0 : Nat) : Int) != 0) = false from rfl, cond_false, h316_is (by rw [nA_len]; omega)]; rfl
        · rw [if_neg g, bne_iff_ne.2 (by omega), cond_true]; rfl
  · rw [if_pos h, bne_iff_ne.2 (by omega), cond_true]; rfl
theorem L342_is {N : Nat} {q : List Int → Bool → Int → Bool → Int → Nat → List V → Option ((Bool × Int × (List (Int × (List Int))) × (List Int)) × Int)} {v8 v10 : Bool} {v9 v11 : Int} : ∀ (d i : Nat) (b : List Nat) (acc : List At) (k n fuel : Nat), k = acc.length → i + d = n → n ≤ 1000 → d < fuel → bel 256 b → b.length ≤ 100000 → acc.length + d ≤ 1000 →
    L342_0 h344 h51 h143 N q fuel ((n : Nat) : Int) (nI b) ((i : Nat) : Int) v8 v9 v10 v11 k (flat shA (nA acc)) = if (parL d b).2.2 = 0 then q (nI (parL d b).2.1) v8 v9 v10 v11 (acc ++ (parL d b).1).length (flat shA (nA (acc ++ (parL d b).1))) else some (enQ (zero18, (parL d b).2.2))
  | 0, i, b, acc, k, n, fuel + 1, hk, hi, _, _, _, _, _ => by
    rw [L342_0, decide_eq_false (by omega), cond_false]
    rw [if_pos (show (parL 0 b).2.2 = 0 from rfl), show (parL 0 b).1 = [] from rfl, List.append_nil, hk]; rfl
  | d + 1, i, b, acc, k, n, fuel + 1, hk, hi, hn, hf, hb, hl, ha => by
    have e : h143 (nI b) = some (enP (parse17 b)) := h143_is hb hl
    rw [L342_0, decide_eq_true (by omega), cond_true]
    simp only [e, enP, flatA_len, nA_len, nI_len]
    by_cases h : (parse17 b).2.2 = 0
    · obtain ⟨hle, _⟩ := parse17_le h
      have ih := L342_is (N := N) (q := q) (v8 := v8) (v9 := v9) (v10 := v10) (v11 := v11) d (i + 1) (b.drop (parse17 b).2.1) (acc ++ [(parse17 b).1]) (k + 1) n fuel (by simp [hk]) (by omega) hn (by omega) (bel_drop hb) (by rw [List.length_drop]; omega) (by simp; omega)
      rw [h, show (((0 : Nat) : Int) != 0) = false from rfl, cond_false, show (acc.length * 2 == k * 2) = true from beq_iff_eq.2 (by omega), Bool.true_and, decide_eq_true (by omega), decide_eq_true (by omega), Bool.and_self, cond_true, decide_eq_true (by omega), decide_eq_true (by omega), Bool.and_self, cond_true, Int.toNat_natCast, nI_drop, flat_at, show iadd .i64 ((i : Nat) : Int) 1 = ((i + 1 : Nat) : Int) from addn (a := i) (b := 1) (by omega), ih]
      by_cases g : (parL d (b.drop (parse17 b).2.1)).2.2 = 0
      · rw [parL_1 h g, if_pos g, if_pos rfl, List.append_assoc]; rfl
      · rw [parL_2 h g, if_neg g, if_neg g]
    · rw [parL_3 h, if_neg h, bne_iff_ne.2 (by omega), cond_true]; rfl
def h342 (b : List Int) := p342 h344 h51 h143 20 b
theorem E342 : EntOK FT XT 342 (en342 h342) := ok342 h344 h51 h143 E344 E51 E143 fun _ _ h => ⟨20, h⟩
theorem h342_is {b : List Nat} (hb : bel 256 b) (hl : b.length ≤ 100000) : h342 (nI b) = some (enQ (parse18 b)) := by
  unfold h342 p342 parse18
  rw [h344_is hb]
  simp only [enN, nI_len]
  by_cases h : (len18 b).2 = 0
  · rw [if_neg (show ¬ (len18 b).2 ≠ 0 from fun g => g h), h, show (((0 : Nat) : Int) != 0) = false from rfl, cond_false]
    by_cases h1 : b.length < (len18 b).1
    · rw [if_pos h1, decide_eq_true (by omega), cond_true]; rfl
    rw [if_neg h1, decide_eq_false (by omega), cond_false]
    by_cases h2 : (len18 b).1 < b.length
    · rw [if_pos h2, decide_eq_true (by omega), cond_true]; rfl
    rw [if_neg h2, decide_eq_false (by omega), cond_false]
    obtain ⟨x, y, v, r, rfl, hx, hn, h8, h5, _⟩ := len18_ok h
    rw [hn] at h1 h2
    simp only [List.length_cons] at h1 h2 hl
    simp only [nI_cons, geti_c1]
    rcases hx with rfl | rfl
    · rw [show (((0 : Nat) : Int) == 0) = true from rfl, cond_true]
      simp only [List.drop_succ_cons, List.drop_zero, List.length_cons]
      rw [decide_eq_true (by omega), cond_true]; rfl
    · rw [show (((1 : Nat) : Int) == 0) = false from rfl, cond_false]
      have h8 := h8 rfl
      match r, hb, h1, h2, hl with
      | [], _, h1, h2, _ => simp at h1 h2; omega
      | [_], _, h1, h2, _ => simp at h1 h2; omega
      | [_, _], _, h1, h2, _ => simp at h1 h2; omega
      | [_, _, _], _, h1, h2, _ => simp at h1 h2; omega
      | a :: c :: s :: u :: r, hb, _, _, hl =>
        have ha : a < 256 := hb a (by simp)
        have hc : c < 256 := hb c (by simp)
        have hs : s < 256 := hb s (by simp)
        have hu : u < 256 := hb u (by simp)
        have hr : bel 256 r := fun z hz => hb z (by simp [hz])
        have hg := parL_good (s * 256 + u) r hr
        simp only [nI_cons, List.drop_succ_cons, List.drop_zero, List.take_succ_cons, List.take_zero, List.length_cons, h51_2 ha hc, h51_2 hs hu, wrap_i64 (x := ((s * 256 + u : Nat) : Int)) (by omega) (by omega), w16, Nat.mod_eq_of_lt (show a * 256 + c < 65536 by omega)]
        rw [decide_eq_true (by omega), cond_true]
        show _ = some (enQ (if _ then _ else _))
        unfold par18
        by_cases g8 : 8 < s * 256 + u
        · rw [decide_eq_true (by omega), cond_true, if_pos g8, if_neg (show ¬ (([], 5) : List At × Nat).2 = 0 from fun e => by cases e)]; rfl
        rw [decide_eq_false (by omega), cond_false, decide_eq_true (by omega), cond_true, if_neg g8]
        refine (L342_is (N := 20) (s * 256 + u) 0 r [] 0 (s * 256 + u) 20 rfl (by omega) (by omega) (by omega) hr (by simp at hl; omega) (by simp; omega)).trans ?_
        by_cases g : (parL (s * 256 + u) r).2.2 = 0
        · rw [if_pos g, if_pos g, List.nil_append, nI_len]
          by_cases g2 : 0 < (parL (s * 256 + u) r).2.1.length
          · rw [if_pos g2, decide_eq_true (by omega), cond_true]; rfl
          · rw [if_neg g2, decide_eq_false (by omega), cond_false, flatA_len, nA_len, decide_eq_true (by omega), cond_true, rows_at2 rfl (by omega)]; rfl
        · rw [if_neg g, if_neg g, if_neg g]
  · rw [if_pos h, bne_iff_ne.2 (by omega), cond_true]; rfl
/-! ### what is parsed is good -/
theorem zero18_good : gK zero18 := ⟨by decide, (fun x hx => by cases hx), Nat.zero_le _, (fun x hx => by cases hx), Nat.zero_le _⟩
theorem take18_good {b : List Nat} (hb : bel 256 b) (hl : b.length ≤ 5000) : gK (take18 b).1 := by
  unfold take18
  split
  · rename_i r
    refine ⟨Nat.zero_lt_succ _, (fun x hx => by cases hx), Nat.zero_le _, (fun x hx => hb x (by simp [hx])), ?_⟩
    simp at hl; show r.length ≤ 5000; omega
  · rename_i y v s u r _
    have hr : bel 256 r := fun z hz => hb z (by simp [hz])
    have hy : y < 256 := hb y (by simp)
    have hv : v < 256 := hb v (by simp)
    have hg := par18_good (n := s * 256 + u) hr
    split
    · exact ⟨(by show y * 256 + v < 65536; omega), hg.1, hg.2, (fun x hx => by cases hx), Nat.zero_le _⟩
    · exact zero18_good
  · exact zero18_good
theorem parse18_good {b : List Nat} (hb : bel 256 b) (hl : b.length ≤ 5000) : gK (parse18 b).1 := by
  unfold parse18
  split
  · exact zero18_good
  split
  · exact zero18_good
  split
  · exact zero18_good
  exact take18_good hb hl
theorem take18_bad {b : List Nat} (h : (take18 b).2 ≠ 0) : (take18 b).1 = zero18 := by
  unfold take18 at h ⊢
  split at h
  · exact absurd rfl h
  · split at h
    · exact absurd rfl h
    · rename_i g; simp only [if_neg g]
  · rfl
theorem parse18_bad {b : List Nat} (h : (parse18 b).2 ≠ 0) : (parse18 b).1 = zero18 := by
  unfold parse18 at h ⊢
  by_cases h1 : (len18 b).2 ≠ 0
  · rw [if_pos h1]
  rw [if_neg h1] at h ⊢
  by_cases h2 : b.length < (len18 b).1
  · rw [if_pos h2]
  rw [if_neg h2] at h ⊢
  by_cases h3 : (len18 b).1 < b.length
  · rw [if_pos h3]
  rw [if_neg h3] at h ⊢
  exact take18_bad h
/-! ### there and back -/
theorem parL_back : ∀ l : List At, gA l → (layA l).2 = 0 → parL l.length (layA l).1 = (l, [], 0)
  | [], _, _ => rfl
  | a :: t, hg, h => by
    by_cases h1 : (lay17 a.1 a.2).2 = 0
    · by_cases h2 : (layA t).2 = 0
      · rw [layA_1 h1 h2]
        have b := back17 (b := (layA t).1) (gA_head hg).2.1 h1
        have ih := parL_back t (gA_tail hg) h2
        have e : (((lay17 a.1 a.2).1 ++ (layA t).1).drop (parse17 ((lay17 a.1 a.2).1 ++ (layA t).1)).2.1) = (layA t).1 := by rw [b, List.drop_left]
        rw [List.length_cons, parL_1 (by rw [b]) (by rw [e, ih]), e, ih, b]
      · rw [layA_2 h1 h2] at h; exact absurd h h2
    · rw [layA_3 h1] at h; exact absurd h h1
def norm18 (p : Pk) : Pk := if p.1 = true then (true, p.2.1, p.2.2.1, []) else (false, 0, [], p.2.2.2)
theorem lay18_ok {p : Pk} (h : (lay18 p).2 = 0) : (body18 p).2 = 0 ∧ (body18 p).1.length ≤ 4091 ∧ (lay18 p).1 = 16 :: cond p.1 1 0 :: (4 + (body18 p).1.length) / 256 % 256 :: (4 + (body18 p).1.length) % 256 :: (body18 p).1 := by
  unfold lay18 at h ⊢
  by_cases h1 : (body18 p).2 = 0
  · rw [if_pos h1] at h ⊢
    by_cases h2 : 4091 < (body18 p).1.length
    · rw [if_pos h2] at h; cases h
    rw [if_neg h2]
    exact ⟨h1, by omega, rfl⟩
  · rw [if_neg h1] at h; exact absurd h h1
theorem lay18_bad {p : Pk} (h : (lay18 p).2 ≠ 0) : (lay18 p).1 = [] := by
  unfold lay18 at h ⊢
  by_cases h1 : (body18 p).2 = 0
  · rw [if_pos h1] at h ⊢
    by_cases h2 : 4091 < (body18 p).1.length
    · rw [if_pos h2]
    · rw [if_neg h2] at h; exact absurd rfl h
  · rw [if_neg h1]
theorem body18_ok {p : Pk} (h : (body18 p).2 = 0) : (p.1 = true ∧ p.2.2.1.length ≤ 8 ∧ (layA p.2.2.1).2 = 0 ∧ (body18 p).1 = be2 p.2.1 ++ (be2 p.2.2.1.length ++ (layA p.2.2.1).1)) ∨ (p.1 = false ∧ p.2.2.2.length ≠ 0 ∧ (body18 p).1 = p.2.2.2) := by
  unfold body18 at h ⊢
  cases hp : p.1
  · right
    rw [hp] at h
    simp only [Bool.false_eq_true, if_false] at h ⊢
    by_cases h1 : p.2.2.2.length = 0
    · rw [if_pos h1] at h; cases h
    · rw [if_neg h1]; exact ⟨trivial, h1, rfl⟩
  · left
    rw [hp] at h
    simp only [if_true] at h ⊢
    by_cases h1 : 8 < p.2.2.1.length
    · rw [if_pos h1] at h; cases h
    rw [if_neg h1] at h ⊢
    by_cases h2 : (layA p.2.2.1).2 = 0
    · rw [if_pos h2]; exact ⟨trivial, by omega, h2, rfl⟩
    · rw [if_neg h2] at h; exact absurd h h2
theorem len18_of {p : Pk} (h : (lay18 p).2 = 0) (r : List Nat) : len18 ((lay18 p).1.take 4 ++ r) = ((lay18 p).1.length, 0) ∧ 5 ≤ (lay18 p).1.length ∧ (lay18 p).1.length ≤ 4095 := by
  obtain ⟨h1, h2, h3⟩ := lay18_ok h
  have hn : (4 + (body18 p).1.length) / 256 % 256 * 256 + (4 + (body18 p).1.length) % 256 = 4 + (body18 p).1.length := by omega
  have hl : (lay18 p).1.length = 4 + (body18 p).1.length := by rw [h3]; simp; omega
  have ht : (lay18 p).1.take 4 = [16, cond p.1 1 0, (4 + (body18 p).1.length) / 256 % 256, (4 + (body18 p).1.length) % 256] := by rw [h3]; rfl
  rw [ht, hl]
  have hb := body18_ok h1
  simp only [List.cons_append, List.nil_append, len18, hn]
  rcases hb with ⟨g1, g2, g3, g4⟩ | ⟨g1, g2, g3⟩
  · have : 4 ≤ (body18 p).1.length := by rw [g4]; simp [be2]
    rw [g1, cond_true, if_neg (by omega), if_neg (by rw [if_pos rfl]; omega)]
    exact ⟨rfl, by omega, by omega⟩
  · have : 0 < (body18 p).1.length := by rw [g3]; omega
    rw [g1, cond_false, if_neg (by omega), if_neg (by rw [if_neg (by decide)]; omega)]
    exact ⟨rfl, by omega, by omega⟩
theorem back18 {p : Pk} (g : gK p) (h : (lay18 p).2 = 0) : parse18 (lay18 p).1 = (norm18 p, 0) := by
  have hl := (len18_of h ((lay18 p).1.drop 4)).1
  rw [List.take_append_drop] at hl
  obtain ⟨h1, h2, h3⟩ := lay18_ok h
  unfold parse18
  rw [hl, if_neg (fun e => e rfl), if_neg (Nat.lt_irrefl _), if_neg (Nat.lt_irrefl _), h3]
  rcases body18_ok h1 with ⟨g1, g2, g3, g4⟩ | ⟨g1, g2, g3⟩
  · have hid := g.1
    have e1 : p.2.1 / 256 % 256 * 256 + p.2.1 % 256 = p.2.1 := by omega
    have e2 : p.2.2.1.length / 256 % 256 * 256 + p.2.2.1.length % 256 = p.2.2.1.length := by omega
    rw [g4, g1, norm18, if_pos g1]
    show take18 (16 :: 1 :: _ :: _ :: (p.2.1 / 256 % 256) :: (p.2.1 % 256) :: (p.2.2.1.length / 256 % 256) :: (p.2.2.1.length % 256) :: (layA p.2.2.1).1) = _
    have hp : par18 p.2.2.1.length (layA p.2.2.1).1 = (p.2.2.1, 0) := by
      unfold par18
      rw [if_neg (by omega), parL_back _ g.2.1 g3]; rfl
    show (if (par18 (p.2.2.1.length / 256 % 256 * 256 + p.2.2.1.length % 256) (layA p.2.2.1).1).2 = 0 then ((true, p.2.1 / 256 % 256 * 256 + p.2.1 % 256, (par18 (p.2.2.1.length / 256 % 256 * 256 + p.2.2.1.length % 256) (layA p.2.2.1).1).1, []), 0) else (zero18, (par18 (p.2.2.1.length / 256 % 256 * 256 + p.2.2.1.length % 256) (layA p.2.2.1).1).2)) = _
    rw [e1, e2, hp, if_pos rfl]
  · rw [g3, g1, norm18, g1, if_neg (by decide)]; rfl
theorem forth17 {b : List Nat} (hb : bel 256 b) (h : (parse17 b).2.2 = 0) : lay17 (parse17 b).1.1 (parse17 b).1.2 = (b.take (parse17 b).2.1, 0) := by
  match b, hb, h with
  | [], _, h => cases h
  | [_], _, h => cases h
  | [_, _], _, h => cases h
  | [_, _, _], _, h => cases h
  | w :: x :: y :: v :: r, hb, h =>
    have hy : y < 256 := hb y (by simp)
    have hv : v < 256 := hb v (by simp)
    by_cases h1 : w ≠ 0 ∨ y * 256 + v < 4 ∨ 4095 < y * 256 + v
    · rw [show parse17 (w :: x :: y :: v :: r) = ((0, []), (0, 3)) from if_pos h1] at h; cases h
    by_cases h2 : kind17 x = false
    · rw [show parse17 (w :: x :: y :: v :: r) = ((0, []), (0, 9)) from (if_neg h1).trans (if_pos h2)] at h; cases h
    by_cases h3 : r.length + 4 < y * 256 + v
    · rw [show parse17 (w :: x :: y :: v :: r) = ((0, []), (0, 4)) from (if_neg h1).trans ((if_neg h2).trans (if_pos h3))] at h; cases h
    rw [show parse17 (w :: x :: y :: v :: r) = ((x, r.take (y * 256 + v - 4)), (y * 256 + v, 0)) from (if_neg h1).trans ((if_neg h2).trans (if_neg h3))]
    have hw : w = 0 := by omega
    subst hw
    have hl : (r.take (y * 256 + v - 4)).length = y * 256 + v - 4 := by rw [List.length_take]; omega
    show lay17 x (r.take (y * 256 + v - 4)) = (List.take (y * 256 + v) (0 :: x :: y :: v :: r), 0)
    unfold lay17
    rw [if_neg h2, hl, if_neg (by omega), show y * 256 + v = (y * 256 + v - 4) + 4 by omega]
    simp only [List.take_succ_cons, be2]
    have e1 : (4 + (y * 256 + v - 4 + 4 - 4)) / 256 % 256 = y := by omega
    have e2 : (4 + (y * 256 + v - 4 + 4 - 4)) % 256 = v := by omega
    rw [e1, e2, show y * 256 + v - 4 + 4 - 4 = y * 256 + v - 4 by omega]; rfl
theorem parL_forth : ∀ (n : Nat) (b : List Nat), bel 256 b → (parL n b).2.2 = 0 → (layA (parL n b).1).2 = 0 ∧ (layA (parL n b).1).1 ++ (parL n b).2.1 = b ∧ (parL n b).1.length = n
  | 0, b, _, _ => ⟨rfl, rfl, rfl⟩
  | n + 1, b, hb, h => by
    by_cases h1 : (parse17 b).2.2 = 0
    · by_cases h2 : (parL n (b.drop (parse17 b).2.1)).2.2 = 0
      · obtain ⟨i1, i2, i3⟩ := parL_forth n (b.drop (parse17 b).2.1) (bel_drop hb) h2
        have f := forth17 hb h1
        rw [parL_1 h1 h2]
        have e : layA ((parse17 b).1 :: (parL n (b.drop (parse17 b).2.1)).1) = _ := layA_1 (by rw [f]) i1
        simp only [e]
        rw [f]
        exact ⟨trivial, by rw [List.append_assoc, i2, List.take_append_drop], by rw [List.length_cons, i3]⟩
      · rw [parL_2 h1 h2] at h; exact absurd h h2
    · rw [parL_3 h1] at h; exact absurd h h1
theorem forth18 {b : List Nat} (hb : bel 256 b) (h : (parse18 b).2 = 0) : lay18 (parse18 b).1 = (b, 0) := by
  unfold parse18 at h ⊢
  by_cases h1 : (len18 b).2 ≠ 0
  · rw [if_pos h1] at h; exact absurd h h1
  rw [if_neg h1] at h ⊢
  by_cases h2 : b.length < (len18 b).1
  · rw [if_pos h2] at h; cases h
  rw [if_neg h2] at h ⊢
  by_cases h3 : (len18 b).1 < b.length
  · rw [if_pos h3] at h; cases h
  rw [if_neg h3] at h ⊢
  obtain ⟨x, y, v, r, rfl, hx, hn, h8, h5, h4⟩ := len18_ok (b := b) (by omega)
  rw [hn] at h2 h3
  have hy : y < 256 := hb y (by simp)
  have hv : v < 256 := hb v (by simp)
  rw [List.length_cons, List.length_cons, List.length_cons, List.length_cons] at h2 h3
  rcases hx with rfl | rfl
  · show lay18 (false, 0, [], r) = _
    have hbd : body18 (false, 0, [], r) = (r, 0) := (if_neg (show ¬ false = true from (by decide))).trans (if_neg (by show ¬ r.length = 0; omega))
    unfold lay18
    rw [hbd]
    simp only [if_true, cond_false]
    rw [if_neg (by omega)]
    simp only [be2, List.cons_append, List.nil_append]
    rw [show (4 + r.length) / 256 % 256 = y by omega, show (4 + r.length) % 256 = v by omega]
  · have h8 := h8 rfl
    match r, hb, h, h2, h3 with
    | [], _, _, h2, h3 => simp at h2 h3; omega
    | [_], _, _, h2, h3 => simp at h2 h3; omega
    | [_, _], _, _, h2, h3 => simp at h2 h3; omega
    | [_, _, _], _, _, h2, h3 => simp at h2 h3; omega
    | a :: c :: s :: u :: r, hb, h, h2, h3 =>
      have ha : a < 256 := hb a (by simp)
      have hc : c < 256 := hb c (by simp)
      have hs : s < 256 := hb s (by simp)
      have hu : u < 256 := hb u (by simp)
      have hr : bel 256 r := fun z hz => hb z (by simp [hz])
      have e : take18 (16 :: 1 :: y :: v :: a :: c :: s :: u :: r) = if (par18 (s * 256 + u) r).2 = 0 then ((true, a * 256 + c, (par18 (s * 256 + u) r).1, []), 0) else (zero18, (par18 (s * 256 + u) r).2) := rfl
      rw [e] at h ⊢
      by_cases g : (par18 (s * 256 + u) r).2 = 0
      · rw [if_pos g]
        unfold par18 at g ⊢
        by_cases g8 : 8 < s * 256 + u
        · rw [if_pos g8] at g; cases g
        rw [if_neg g8] at g ⊢
        by_cases g2 : (parL (s * 256 + u) r).2.2 = 0
        · rw [if_pos g2] at g ⊢
          by_cases g3 : 0 < (parL (s * 256 + u) r).2.1.length
          · rw [if_pos g3] at g; cases g
          rw [if_neg g3]
          obtain ⟨i1, i2, i3⟩ := parL_forth _ _ hr g2
          rw [List.length_eq_zero_iff.1 (show (parL (s * 256 + u) r).2.1.length = 0 by omega), List.append_nil] at i2
          have hbd : body18 (true, a * 256 + c, (parL (s * 256 + u) r).1, []) = (a :: c :: s :: u :: r, 0) := by
            show (if true = true then (if 8 < (parL (s * 256 + u) r).1.length then (([], 5) : List Nat × Nat) else if (layA (parL (s * 256 + u) r).1).2 = 0 then (be2 (a * 256 + c) ++ (be2 (parL (s * 256 + u) r).1.length ++ (layA (parL (s * 256 + u) r).1).1), 0) else ([], (layA (parL (s * 256 + u) r).1).2)) else _) = _
            rw [if_pos rfl, i3, if_neg g8, if_pos i1, i2]
            simp only [be2, List.cons_append, List.nil_append]
            rw [show (a * 256 + c) / 256 % 256 = a by omega, show (a * 256 + c) % 256 = c by omega, show (s * 256 + u) / 256 % 256 = s by omega, show (s * 256 + u) % 256 = u by omega]
          simp only [List.length_cons] at h2 h3
          unfold lay18
          simp only [hbd, if_true, cond_true, List.length_cons]
          rw [if_neg (by omega)]
          simp only [be2, List.cons_append, List.nil_append]
          rw [show (4 + (r.length + 1 + 1 + 1 + 1)) / 256 % 256 = y by omega, show (4 + (r.length + 1 + 1 + 1 + 1)) % 256 = v by omega]
        · rw [if_neg g2] at g; exact absurd g g2
      · rw [if_neg g] at h; exact absurd h g
end Go.Proofs.YteagngpgghnlmaaE
