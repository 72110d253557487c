/- Chapter 18: packets laid, parsed, looked at. -/
import Derived.Test.YteagngpgghnlmaaEvC17
namespace Go.Proofs.YteagngpgghnlmaaE
open Go
set_option linter.unusedSimpArgs false
set_option linter.unusedVariables false

abbrev At := Nat × List Nat
abbrev Pk := Bool × Nat × List At × List Nat
abbrev PkI := Bool × Int × List (Int × List Int) × List Int
def at1 (a : At) : Int × List Int := ((a.1 : Int), nI a.2)
def nA (l : List At) : List (Int × List Int) := l.map at1
abbrev enK (p : Pk) : PkI := (p.1, ((p.2.1 : Int), (nA p.2.2.1, nI p.2.2.2)))
theorem nA_len (l : List At) : (nA l).length = l.length := List.length_map ..
theorem nA_nil : nA [] = [] := rfl
def gA (l : List At) : Prop := ∀ a ∈ l, a.1 < 256 ∧ bel 256 a.2 ∧ a.2.length ≤ 5000
def gK (p : Pk) : Prop := p.2.1 < 65536 ∧ gA p.2.2.1 ∧ p.2.2.1.length ≤ 12 ∧ bel 256 p.2.2.2 ∧ p.2.2.2.length ≤ 5000
theorem nA_at (pre t : List At) (a : At) : geti (nA (pre ++ a :: t)) ((pre.length : Nat) : Int) = some (at1 a) := by
  rw [geti_nat, nA, List.getElem?_map, List.getElem?_append_right (Nat.le_refl _), Nat.sub_self]; rfl
theorem gA_tail {a : At} {t : List At} (h : gA (a :: t)) : gA t := fun x hx => h x (List.mem_cons_of_mem _ hx)
theorem gA_head {a : At} {t : List At} (h : gA (a :: t)) : a.1 < 256 ∧ bel 256 a.2 ∧ a.2.length ≤ 5000 := h a (by simp)
theorem app1 (pre t : List At) (a : At) : pre ++ a :: t = pre ++ [a] ++ t := by simp
theorem len1 (pre : List At) (a : At) : (pre ++ [a]).length = pre.length + 1 := by simp
theorem ltF (pre : List At) : decide (((pre.length : Nat) : Int) < (((pre ++ ([] : List At)).length : Nat) : Int)) = false := by simp
theorem ltT (pre t : List At) (a : At) : decide (((pre.length : Nat) : Int) < (((pre ++ a :: t).length : Nat) : Int)) = true := by simp; omega
theorem inc1 (pre : List At) (a : At) (h : pre.length ≤ 100000) : iadd .i64 ((pre.length : Nat) : Int) 1 = (((pre ++ [a]).length : Nat) : Int) := by
  rw [len1]; exact addn (a := pre.length) (b := 1) (by omega)
/-! ### the same -/
theorem L313_is {N : Nat} : ∀ (t u pre prf : List At) (fuel : Nat), pre.length = prf.length → t.length = u.length → t.length < fuel → gA t → gA u → (pre ++ t).length ≤ 100000 →
    L313v0_0 h144 N (some ((true, ()), ())) fuel (nA (prf ++ u)) (nA (pre ++ t)) (((pre ++ t).length : Nat) : Int) ((pre.length : Nat) : Int) = some ((t == u, ()), ())
  | [], u, pre, prf, fuel + 1, hp, hl, _, _, _, _ => by
    obtain rfl : u = [] := List.length_eq_zero_iff.1 hl.symm
    rw [L313v0_0, ltF, cond_false]; rfl
  | a :: t, [], pre, prf, fuel + 1, hp, hl, _, _, _, _ => by cases hl
  | a :: t, b :: u, pre, prf, fuel + 1, hp, hl, hf, ht, hu, hn => by
    have e2 : geti (nA (prf ++ b :: u)) ((pre.length : Nat) : Int) = some (at1 b) := by rw [hp]; exact nA_at prf u b
    have e3 : h144 ((at1 a).1, (at1 a).2) ((at1 b).1, (at1 b).2) = some (a.1 == b.1 && a.2 == b.2) := h144_is (gA_head ht).2.1 (gA_head hu).2.1
    have hn2 : pre.length + t.length + 1 ≤ 100000 := by simpa [Nat.add_assoc] using hn
    have ih := L313_is (N := N) t u (pre ++ [a]) (prf ++ [b]) fuel (by rw [len1, len1, hp]) (by simpa using hl) (by simpa using hf) (gA_tail ht) (gA_tail hu) (by rw [← app1]; exact hn)
    rw [L313v0_0, ltT, cond_true, nA_at]
    simp only [e2, e3]
    rw [show (a :: t == b :: u) = ((a.1 == b.1 && a.2 == b.2) && (t == u)) from rfl]
    cases (a.1 == b.1 && a.2 == b.2)
    · rfl
    · rw [Bool.not_true, cond_false, Bool.true_and, inc1 pre a (by omega)]
      rw [← app1 pre t a, ← app1 prf u b] at ih
      exact ih
def h313 (a b : List (Int × List Int)) := p313v0 h144 20 a b
theorem R313 : REntOK FT XT 313 (rn313v0 h313) := ok313v0 h144 E144 fun _ _ _ h => ⟨20, h⟩
theorem h313_is {t u : List At} (ht : gA t) (hu : gA u) (hl : t.length ≤ 12) : h313 (nA t) (nA u) = some ((t == u, ()), ()) := by
  unfold h313 p313v0
  simp only [nA_len]
  by_cases h : t.length = u.length
  · rw [h, bne_self_eq_false, cond_false, ← h]
    exact L313_is t u [] [] 20 rfl h (by omega) ht hu (by simp; omega)
  · rw [bne_iff_ne.2 (by omega), cond_true, beq_eq_false_iff_ne.2 (fun e => h (by rw [e]))]
def h302 (a b : PkI) := p302 h313 h160 0 a b
theorem E302 : EntOK FT XT 302 (en302 h302) := ok302 h313 h160 E160 R313 fun _ _ _ h => ⟨0, h⟩
theorem pk_beq (p q : Pk) : (p == q) = (p.1 == q.1 && (p.2.1 == q.2.1 && (p.2.2.1 == q.2.2.1 && p.2.2.2 == q.2.2.2))) := rfl
theorem h302_is {p q : Pk} (gp : gK p) (gq : gK q) : h302 (enK p) (enK q) = some (p == q) := by
  unfold h302 p302
  rw [pk_beq]
  simp only [enK, nbeq, h313_is gp.2.1 gq.2.1 gp.2.2.1, h160_is gp.2.2.2.1 gq.2.2.2.1]
  cases (p.1 == q.1) <;> cases (p.2.1 == q.2.1) <;> cases (p.2.2.1 == q.2.2.1) <;> cases (p.2.2.2 == q.2.2.2) <;> rfl
def h360 (a b : Int × List Int) := p360 f23 0 a b
theorem E360 : EntOK FT XT 360 (en360 h360) := ok360 f23 E23 fun _ _ _ h => ⟨0, h⟩
theorem h360_is {a b : At} (ha : a.2.length ≤ 5000) : h360 ((at1 a).1, (at1 a).2) ((at1 b).1, (at1 b).2) = some (a.1 == b.1 && a.2 == b.2) := by
  unfold h360 p360 at1
  simp only [nbeq, f23_is (a := a.2) (b := b.2) (by omega)]
  cases (a.1 == b.1) <;> rfl
theorem L345_is {N : Nat} {q : Bool → Int → List (Int × (List Int)) → List Int → Bool → Int → List (Int × (List Int)) → List Int → Option Bool} {v2 v6 : Bool} {v3 v7 : Int} {v5 v9 : List Int} : ∀ (t u pre prf : List At) (fuel : Nat), pre.length = prf.length → t.length = u.length → t.length < fuel → gA t → gA u → (pre ++ t).length ≤ 100000 →
    L345_0 h360 f23 N q fuel ((pre.length : Nat) : Int) v2 v3 (nA (pre ++ t)) v5 v6 v7 (nA (prf ++ u)) v9 = if t = u then q v2 v3 (nA (pre ++ t)) v5 v6 v7 (nA (prf ++ u)) v9 else some false
  | [], u, pre, prf, fuel + 1, hp, hl, _, _, _, _ => by
    obtain rfl : u = [] := List.length_eq_zero_iff.1 hl.symm
    rw [L345_0, nA_len, ltF, cond_false, if_pos rfl]
  | a :: t, [], pre, prf, fuel + 1, hp, hl, _, _, _, _ => by cases hl
  | a :: t, b :: u, pre, prf, fuel + 1, hp, hl, hf, ht, hu, hn => by
    have e2 : geti (nA (prf ++ b :: u)) ((pre.length : Nat) : Int) = some (at1 b) := by rw [hp]; exact nA_at prf u b
    have e3 := h360_is (a := a) (b := b) (gA_head ht).2.2
    have hn2 : pre.length + t.length + 1 ≤ 100000 := by simpa [Nat.add_assoc] using hn
    have ih := L345_is (N := N) (q := q) (v2 := v2) (v3 := v3) (v5 := v5) (v6 := v6) (v7 := v7) (v9 := v9) t u (pre ++ [a]) (prf ++ [b]) fuel (by rw [len1, len1, hp]) (by simpa using hl) (by simpa using hf) (gA_tail ht) (gA_tail hu) (by rw [← app1]; exact hn)
    rw [L345_0, nA_len, ltT, cond_true, nA_at]
    simp only [e2, e3]
    by_cases h : a = b
    · subst h
      rw [beq_self_eq_true, beq_self_eq_true, Bool.and_self, Bool.not_true, cond_false, inc1 pre a (by omega)]
      rw [← app1 pre t a, ← app1 prf u a] at ih
      rw [ih]
      simp only [List.cons.injEq, true_and]
    · rw [if_neg (fun g => h (List.cons.inj g).1), show (a.1 == b.1 && a.2 == b.2) = false from beq_eq_false_iff_ne.2 h]; rfl
def h345 (a b : PkI) := p345 h360 f23 20 a b
theorem E345 : EntOK FT XT 345 (en345 h345) := ok345 h360 f23 E360 E23 fun _ _ _ h => ⟨20, h⟩
theorem h345_is {p q : Pk} (gp : gK p) (gq : gK q) : h345 (enK p) (enK q) = some (p == q) := by
  unfold h345 p345
  rw [pk_beq]
  have hl := gp.2.2.1
  have e := f23_is (a := p.2.2.2) (b := q.2.2.2) (by have := gp.2.2.2.2; omega)
  simp only [enK, nA_len]
  by_cases h : p.2.2.1.length = q.2.2.1.length
  · rw [h, bne_self_eq_false, cond_false]
    have := L345_is (N := 20) (v2 := p.1) (v3 := ((p.2.1 : Nat) : Int)) (v5 := nI p.2.2.2) (v6 := q.1) (v7 := ((q.2.1 : Nat) : Int)) (v9 := nI q.2.2.2) (q := fun (y13 : Bool) (y14 : Int) (y15 : List (Int × (List Int))) (y16 : List Int) (y17 : Bool) (y18 : Int) (y19 : List (Int × (List Int))) (y20 : List Int) =>
        bif (y13 == y17) then
          bif (y14 == y18) then
            match f23 y16 y20 with
            | none => none
            | some r21 =>
              some r21
          else
            some false
        else
          some false) p.2.2.1 q.2.2.1 [] [] 20 rfl h (by omega) gp.2.1 gq.2.1 (by simp; omega)
    refine Eq.trans this ?_
    simp only [nbeq, e]
    by_cases g : p.2.2.1 = q.2.2.1
    · rw [if_pos g, g, beq_self_eq_true]
      cases (p.1 == q.1) <;> cases (p.2.1 == q.2.1) <;> cases (p.2.2.2 == q.2.2.2) <;> rfl
    · rw [if_neg g, beq_eq_false_iff_ne.2 g]
      cases (p.1 == q.1) <;> cases (p.2.1 == q.2.1) <;> rfl
  · rw [bne_iff_ne.2 (by omega), cond_true, beq_eq_false_iff_ne.2 (show p.2.2.1 ≠ q.2.2.1 from fun e => h (by rw [e]))]
    cases (p.1 == q.1) <;> cases (p.2.1 == q.2.1) <;> rfl
/-! ### made -/
def f320 (l : List (Int × List Int)) : Option (List (Int × List Int)) := if l.length ≤ 80000 then some l else none
theorem f320_is {l : List (Int × List Int)} (h : l.length ≤ 80000) : f320 l = some l := if_pos h
theorem E320 : EntOK FT XT 320 (en320 f320) := ⟨rfl, fun v r h => by
  refine ⟨1, ?_⟩
  obtain ⟨l, u⟩ := v
  replace h : f320 l = some r := h
  unfold f320 at h
  split at h <;> try (cases h; done)
  rename_i hl
  injection h with h; subst h
  simp only [evF, show FT 320 = none from rfl]
  show (if l.length ≤ 80000 then some (V.tb shA l, ([] : List Blk)) else none) = _
  rw [if_pos hl]; rfl⟩
def h316 (n : Int) (l : List (Int × List Int)) := p316 f320 0 n l
theorem E316 : EntOK FT XT 316 (en316 h316) := ok316 f320 E320 fun _ _ _ h => ⟨0, h⟩
theorem h316_is {n : Int} {l : List (Int × List Int)} (h : l.length ≤ 80000) : h316 n l = some (true, (n, (l, []))) := by
  unfold h316 p316
  rw [f320_is h]
def h346 (l : List Int) := p346 f108 0 l
theorem E346 : EntOK FT XT 346 (en346 h346) := ok346 f108 E108 fun _ _ h => ⟨0, h⟩
theorem h346_is {l : List Int} (h : l.length ≤ 1099511627776) : h346 l = some (false, (0, ([], l))) := by
  unfold h346 p346
  rw [f108_is h]
  simp only [List.drop_zero, List.take_length]
  rw [decide_eq_true (show 0 + l.length * 1 ≤ l.length by omega), cond_true]
/-! ### laid -/
def layA : List At → List Nat × Nat
  | [] => ([], 0)
  | a :: t => if (lay17 a.1 a.2).2 = 0 then (if (layA t).2 = 0 then ((lay17 a.1 a.2).1 ++ (layA t).1, 0) else ([], (layA t).2)) else ([], (lay17 a.1 a.2).2)
theorem layA_1 {a : At} {t : List At} (h : (lay17 a.1 a.2).2 = 0) (g : (layA t).2 = 0) : layA (a :: t) = ((lay17 a.1 a.2).1 ++ (layA t).1, 0) := (if_pos h).trans (if_pos g)
theorem layA_2 {a : At} {t : List At} (h : (lay17 a.1 a.2).2 = 0) (g : (layA t).2 ≠ 0) : layA (a :: t) = ([], (layA t).2) := (if_pos h).trans (if_neg g)
theorem layA_3 {a : At} {t : List At} (h : (lay17 a.1 a.2).2 ≠ 0) : layA (a :: t) = ([], (lay17 a.1 a.2).2) := if_neg h
theorem layA_len : ∀ l : List At, gA l → (layA l).1.length ≤ 5004 * l.length
  | [], _ => Nat.zero_le _
  | a :: t, h => by
    have h1 := lay17_len a.1 a.2
    have h2 := (gA_head h).2.2
    have h3 := layA_len t (gA_tail h)
    unfold layA
    split
    · split
      · rw [List.length_append, List.length_cons]; omega
      · exact Nat.zero_le _
    · exact Nat.zero_le _
theorem layA_bel : ∀ l : List At, gA l → bel 256 (layA l).1
  | [], _ => fun x hx => by cases hx
  | a :: t, h => by
    unfold layA
    split
    · split
      · exact bel_app (lay17_bel (gA_head h).1 (gA_head h).2.1) (layA_bel t (gA_tail h))
      · exact fun x hx => by cases hx
    · exact fun x hx => by cases hx
def body18 (p : Pk) : List Nat × Nat :=
  if p.1 = true then (if 8 < p.2.2.1.length then ([], 5) else if (layA p.2.2.1).2 = 0 then (be2 p.2.1 ++ (be2 p.2.2.1.length ++ (layA p.2.2.1).1), 0) else ([], (layA p.2.2.1).2))
  else if p.2.2.2.length = 0 then ([], 4) else (p.2.2.2, 0)
def lay18 (p : Pk) : List Nat × Nat :=
  if (body18 p).2 = 0 then (if 4091 < (body18 p).1.length then ([], 8) else ([16, cond p.1 1 0] ++ (be2 (4 + (body18 p).1.length) ++ (body18 p).1), 0)) else ([], (body18 p).2)
theorem body18_len {p : Pk} (g : gK p) : (body18 p).1.length ≤ 100000 := by
  have h1 := layA_len _ g.2.1
  have h2 := g.2.2.1
  have h3 := g.2.2.2.2
  unfold body18
  split
  · split
    · exact Nat.zero_le _
    · split
      · simp [be2]; omega
      · exact Nat.zero_le _
  · split
    · exact Nat.zero_le _
    · show p.2.2.2.length ≤ _; omega
def h322 (n : Int) := p322 h19 0 n
theorem E322 : EntOK FT XT 322 (en322 h322) := ok322 h19 E19 fun _ _ h => ⟨0, h⟩
theorem h322_is {n : Nat} (h : n < 2 ^ 64) : h322 (n : Int) = some (nI (be2 n)) := by
  unfold h322 p322
  rw [w64 h, put_be2]
theorem L321_is {N : Nat} {q : Nat → List Int → Option ((List Int) × Int)} : ∀ (t pre : List At) (acc : List Nat) (k fuel : Nat), k = acc.length → t.length < fuel → gA t → (pre ++ t).length ≤ 100000 → acc.length + 5004 * t.length ≤ 1000000000 →
    L321_0 h322 f1 h139 N q fuel k (nA (pre ++ t)) (((pre ++ t).length : Nat) : Int) ((pre.length : Nat) : Int) (nI acc) = if (layA t).2 = 0 then q (k + (layA t).1.length) (nI (acc ++ (layA t).1)) else some ([], ((layA t).2 : Int))
  | [], pre, acc, k, fuel + 1, _, _, _, _, _ => by
    rw [L321_0, ltF, cond_false, if_pos (show (layA []).2 = 0 from rfl), show (layA []).1 = [] from rfl, List.append_nil]; rfl
  | a :: t, pre, acc, k, fuel + 1, hk, hf, ht, hn, hc => by
    have e3 : h139 ((at1 a).1, (at1 a).2) = some (enB (lay17 a.1 a.2)) := h139_is (by have := (gA_head ht).2.2; omega)
    have hl := lay17_len a.1 a.2
    have ha := (gA_head ht).2.2
    have hn2 : pre.length + t.length + 1 ≤ 100000 := by simpa [Nat.add_assoc] using hn
    rw [List.length_cons] at hc
    have ih := L321_is (N := N) (q := q) t (pre ++ [a]) (acc ++ (lay17 a.1 a.2).1) (k + (lay17 a.1 a.2).1.length) fuel (by rw [List.length_append, hk]) (by simpa using hf) (gA_tail ht) (by rw [← app1]; exact hn) (by rw [List.length_append]; omega)
    rw [L321_0, ltT, cond_true, nA_at]
    simp only [e3, enB]
    by_cases h : (lay17 a.1 a.2).2 = 0
    · rw [h, show (((0 : Nat) : Int) != 0) = false from rfl, cond_false]
      rw [show ((nI acc).length == k * 1) = true from beq_iff_eq.2 (by rw [nI_len]; omega), nI_len, Bool.true_and, decide_eq_true (by omega), decide_eq_true (by omega), Bool.and_self, cond_true, inc1 pre a (by omega), nI_app]
      rw [← app1 pre t a] at ih
      rw [ih]
      by_cases g : (layA t).2 = 0
      · rw [layA_1 h g, if_pos g, if_pos rfl, List.length_append, Nat.add_assoc, List.append_assoc]
      · rw [layA_2 h g, if_neg g, if_neg g]
    · rw [layA_3 h, if_neg h, bne_iff_ne.2 (by omega), cond_true]
def h321 (p : PkI) := p321 h322 f1 h139 20 p
theorem E321 : EntOK FT XT 321 (en321 h321) := ok321 h322 f1 h139 E322 E46 E139 fun _ _ h => ⟨20, h⟩
theorem h321_is {p : Pk} (g : gK p) : h321 (enK p) = some (enB (body18 p)) := by
  obtain ⟨g1, g2, g3, g4, g5⟩ := g
  obtain ⟨m, id, l, d⟩ := p
  unfold h321 p321 body18
  simp only [enK, nA_len, nI_len]
  simp only [] at g1 g2 g3 g4 g5
  cases m
  · simp only [Bool.not_false, cond_true, Bool.false_eq_true, if_false]
    by_cases h : d.length = 0
    · rw [if_pos h, h]; rfl
    · rw [if_neg h, beq_eq_false_iff_ne.2 (by omega), cond_false]; rfl
  · simp only [Bool.not_true, cond_false, if_true]
    by_cases h : 8 < l.length
    · rw [if_pos h, decide_eq_true (by omega)]; rfl
    rw [if_neg h, decide_eq_false (by omega), cond_false, wrap_i64 (by omega) (by omega), h322_is (by omega), h322_is (by omega)]
    have j : f1 [nI (be2 id), nI (be2 l.length)] = some (nI (be2 id ++ be2 l.length)) := by
      rw [f1_is (by simp) (by simp [nI_len, be2])]; simp [nI]
    simp only [j, nI_len]
    have := L321_is (N := 20) (q := fun (y16 : Nat) (y17 : List Int) =>
                  bif (decide ((0 + (y16 * 1)) ≤ (List.length y17))) then
                    some ((List.take y16 (List.drop 0 y17)), (0 : Int))
                  else none) l [] (be2 id ++ be2 l.length) (be2 id ++ be2 l.length).length 20 rfl (by omega) g2 (by simp; omega) (by simp [be2]; omega)
    refine Eq.trans this ?_
    by_cases h2 : (layA l).2 = 0
    · rw [if_pos h2, if_pos h2]
      have e : (be2 id ++ be2 l.length).length + (layA l).1.length = (nI (be2 id ++ be2 l.length ++ (layA l).1)).length := by rw [nI_len, List.length_append (as := be2 id ++ be2 l.length)]
      rw [e, decide_eq_true (by omega), cond_true, List.drop_zero, List.take_length, List.append_assoc]; rfl
    · rw [if_neg h2, if_neg h2]; rfl
theorem join18 {x : Nat} {a b : List Nat} (ha : a.length ≤ 100) (hb : b.length ≤ 1000000) : f1 [[16, (x : Int)], nI a, nI b] = some (nI ([16, x] ++ (a ++ b))) := join3 (a := [16, x]) (by simp; omega)
def h317 (p : PkI) := p317 h321 h322 f1 0 p
theorem E317 : EntOK FT XT 317 (en317 h317) := ok317 h321 h322 f1 E321 E322 E46 fun _ _ h => ⟨0, h⟩
theorem h317_is {p : Pk} (g : gK p) : h317 (enK p) = some (enB (lay18 p)) := by
  have e := h321_is g
  have hb := body18_len g
  unfold h317 p317 lay18
  rw [show ((enK p).1, ((enK p).2.1, ((enK p).2.2.1, (enK p).2.2.2))) = enK p from rfl, e]
  simp only [enB, nI_len]
  by_cases h : (body18 p).2 = 0
  · rw [if_pos h, h, show (((0 : Nat) : Int) != 0) = false from rfl, cond_false, show iadd .i64 4 (((body18 p).1.length : Nat) : Int) = ((4 + (body18 p).1.length : Nat) : Int) from addn (a := 4) (by omega)]
    by_cases h4 : 4091 < (body18 p).1.length
    · rw [if_pos h4, decide_eq_true (by omega), cond_true]; rfl
    · rw [if_neg h4, decide_eq_false (by omega), cond_false, h322_is (by omega), show (enK p).1 = p.1 from rfl]
      have j1 := join18 (x := 1) (a := be2 (4 + (body18 p).1.length)) (b := (body18 p).1) (by simp [be2]) (by omega)
      have j0 := join18 (x := 0) (a := be2 (4 + (body18 p).1.length)) (b := (body18 p).1) (by simp [be2]) (by omega)
      have fin : ∀ l : List Int, (bif decide (0 + l.length * 1 ≤ l.length) then some (List.take l.length (List.drop 0 l), (0 : Int)) else none) = some (l, 0) := fun l => by
        rw [decide_eq_true (by omega), cond_true, List.drop_zero, List.take_length]
      cases p.1
      · simp only [cond_false]
        rw [show ([16, 0] : List Int) = [16, ((0 : Nat) : Int)] from rfl, j0]
        exact fin _
      · simp only [cond_true]
        rw [show ([16, 1] : List Int) = [16, ((1 : Nat) : Int)] from rfl, j1]
        exact fin _
  · rw [if_neg h, bne_iff_ne.2 (by omega), cond_true]; rfl
theorem L319_is {N : Nat} {q : Nat → Int → List Int → Option ((List Int) × Int)} {v4 v7 : Int} {v6 : Bool} {v9 : List Int} : ∀ (t pre : List At) (acc : List Nat) (k fuel : Nat), k = acc.length → t.length < fuel → gA t → (pre ++ t).length ≤ 100000 → acc.length + 5004 * t.length ≤ 1000000000 →
    L319_0 h50 h141 N q fuel k v4 ((pre.length : Nat) : Int) v6 v7 (nA (pre ++ t)) v9 (nI acc) = if (layA t).2 = 0 then q (k + (layA t).1.length) v4 (nI (acc ++ (layA t).1)) else some ([], ((layA t).2 : Int))
  | [], pre, acc, k, fuel + 1, _, _, _, _, _ => by
    rw [L319_0, nA_len, ltF, cond_false, if_pos (show (layA []).2 = 0 from rfl), show (layA []).1 = [] from rfl, List.append_nil]; rfl
  | a :: t, pre, acc, k, fuel + 1, hk, hf, ht, hn, hc => by
    have e3 : h141 ((at1 a).1, (at1 a).2) = some (enB (lay17 a.1 a.2)) := h141_is (by have := (gA_head ht).2.2; omega)
    have hl := lay17_len a.1 a.2
    have ha := (gA_head ht).2.2
    have hn2 : pre.length + t.length + 1 ≤ 100000 := by simpa [Nat.add_assoc] using hn
    rw [List.length_cons] at hc
    have ih := L319_is (N := N) (q := q) (v4 := v4) (v6 := v6) (v7 := v7) (v9 := v9) t (pre ++ [a]) (acc ++ (lay17 a.1 a.2).1) (k + (lay17 a.1 a.2).1.length) fuel (by rw [List.length_append, hk]) (by simpa using hf) (gA_tail ht) (by rw [← app1]; exact hn) (by rw [List.length_append]; omega)
    rw [L319_0, nA_len, ltT, cond_true, nA_at]
    simp only [e3, enB]
    by_cases h : (lay17 a.1 a.2).2 = 0
    · rw [h, show (((0 : Nat) : Int) != 0) = false from rfl, cond_false]
      rw [show ((nI acc).length == k * 1) = true from beq_iff_eq.2 (by rw [nI_len]; omega), nI_len, Bool.true_and, decide_eq_true (by omega), decide_eq_true (by omega), Bool.and_self, cond_true, inc1 pre a (by omega), nI_app]
      rw [← app1 pre t a] at ih
      rw [ih]
      by_cases g : (layA t).2 = 0
      · rw [layA_1 h g, if_pos g, if_pos rfl, List.length_append, Nat.add_assoc, List.append_assoc]
      · rw [layA_2 h g, if_neg g, if_neg g]
    · rw [layA_3 h, if_neg h, bne_iff_ne.2 (by omega), cond_true]
def tail19 : Nat → Int → List Int → Option ((List Int) × Int) :=
fun (y13 : Nat) (y14 : Int) (y15 : List Int) =>
                  bif (((y13 : Nat) : Int) == (0 : Int)) then
                    some (([] : List Int), (4 : Int))
                  else
                    bif (decide ((iadd .i64 (4 : Int) ((y13 : Nat) : Int)) > (4095 : Int))) then
                      some (([] : List Int), (8 : Int))
                    else
                      match h50 (IntKind.wrap .u64 (iadd .i64 (4 : Int) ((y13 : Nat) : Int))) (2 : Int) with
                      | none => none
                      | some r16 =>
                        bif (decide ((0 + ((List.length r16) * 1)) ≤ (List.length r16))) then
                          bif (decide (2 < (2 + (List.length r16)))) then
                            bif ((decide (((2 + (List.length r16)) * 1) ≤ 1099511627776)) && (decide ((2 + (List.length r16)) ≤ 1099511627776))) then
                              bif (decide ((0 + (y13 * 1)) ≤ (List.length y15))) then
                                bif (((List.length ([(16 : Int), y14] ++ (List.take ((List.length r16) * 1) (List.drop 0 r16)))) == ((2 + (List.length r16)) * 1)) && ((decide ((((2 + (List.length r16)) + y13) * 1) ≤ 1099511627776)) && (decide (((2 + (List.length r16)) + y13) ≤ 1099511627776)))) then
                                  bif (decide ((0 + (((2 + (List.length r16)) + y13) * 1)) ≤ (List.length (([(16 : Int), y14] ++ (List.take ((List.length r16) * 1) (List.drop 0 r16))) ++ (List.take (y13 * 1) (List.drop 0 y15)))))) then
                                    some ((List.take ((2 + (List.length r16)) + y13) (List.drop 0 (([(16 : Int), y14] ++ (List.take ((List.length r16) * 1) (List.drop 0 r16))) ++ (List.take (y13 * 1) (List.drop 0 y15))))), (0 : Int))
                                  else none
                                else none
                              else none
                            else none
                          else
                            bif (decide ((2 + (List.length (List.take ((List.length r16) * 1) (List.drop 0 r16)))) ≤ 2)) then
                              bif (decide ((0 + (y13 * 1)) ≤ (List.length y15))) then
                                bif (decide (2 < ((2 + (List.length r16)) + y13))) then
                                  bif ((decide ((((2 + (List.length r16)) + y13) * 1) ≤ 1099511627776)) && (decide (((2 + (List.length r16)) + y13) ≤ 1099511627776))) then
                                    bif (decide ((0 + ((2 + (List.length r16)) * 1)) ≤ (List.length (([(16 : Int), y14] ++ (List.take ((List.length r16) * 1) (List.drop 0 r16))) ++ (List.drop (2 + (List.length (List.take ((List.length r16) * 1) (List.drop 0 r16)))) [(16 : Int), y14]))))) then
                                      bif (decide ((0 + (((2 + (List.length r16)) + y13) * 1)) ≤ (List.length ((List.take ((2 + (List.length r16)) * 1) (List.drop 0 (([(16 : Int), y14] ++ (List.take ((List.length r16) * 1) (List.drop 0 r16))) ++ (List.drop (2 + (List.length (List.take ((List.length r16) * 1) (List.drop 0 r16)))) [(16 : Int), y14])))) ++ (List.take (y13 * 1) (List.drop 0 y15)))))) then
                                        some ((List.take ((2 + (List.length r16)) + y13) (List.drop 0 ((List.take ((2 + (List.length r16)) * 1) (List.drop 0 (([(16 : Int), y14] ++ (List.take ((List.length r16) * 1) (List.drop 0 r16))) ++ (List.drop (2 + (List.length (List.take ((List.length r16) * 1) (List.drop 0 r16)))) [(16 : Int), y14])))) ++ (List.take (y13 * 1) (List.drop 0 y15))))), (0 : Int))
                                      else none
                                    else none
                                  else none
                                else
                                  bif (decide (((0 + ((2 + (List.length r16)) * 1)) + (List.length (List.take (y13 * 1) (List.drop 0 y15)))) ≤ (List.length (([(16 : Int), y14] ++ (List.take ((List.length r16) * 1) (List.drop 0 r16))) ++ (List.drop (2 + (List.length (List.take ((List.length r16) * 1) (List.drop 0 r16)))) [(16 : Int), y14]))))) then
                                    bif (decide ((0 + (((2 + (List.length r16)) + y13) * 1)) ≤ (List.length (((List.take (0 + ((2 + (List.length r16)) * 1)) (([(16 : Int), y14] ++ (List.take ((List.length r16) * 1) (List.drop 0 r16))) ++ (List.drop (2 + (List.length (List.take ((List.length r16) * 1) (List.drop 0 r16)))) [(16 : Int), y14]))) ++ (List.take (y13 * 1) (List.drop 0 y15))) ++ (List.drop ((0 + ((2 + (List.length r16)) * 1)) + (List.length (List.take (y13 * 1) (List.drop 0 y15)))) (([(16 : Int), y14] ++ (List.take ((List.length r16) * 1) (List.drop 0 r16))) ++ (List.drop (2 + (List.length (List.take ((List.length r16) * 1) (List.drop 0 r16)))) [(16 : Int), y14]))))))) then
                                      some ((List.take ((2 + (List.length r16)) + y13) (List.drop 0 (((List.take (0 + ((2 + (List.length r16)) * 1)) (([(16 : Int), y14] ++ (List.take ((List.length r16) * 1) (List.drop 0 r16))) ++ (List.drop (2 + (List.length (List.take ((List.length r16) * 1) (List.drop 0 r16)))) [(16 : Int), y14]))) ++ (List.take (y13 * 1) (List.drop 0 y15))) ++ (List.drop ((0 + ((2 + (List.length r16)) * 1)) + (List.length (List.take (y13 * 1) (List.drop 0 y15)))) (([(16 : Int), y14] ++ (List.take ((List.length r16) * 1) (List.drop 0 r16))) ++ (List.drop (2 + (List.length (List.take ((List.length r16) * 1) (List.drop 0 r16)))) [(16 : Int), y14])))))), (0 : Int))
                                    else none
                                  else none
                              else none
                            else none
                        else none
theorem be2_len (n : Nat) : (nI (be2 n)).length = 2 := by rw [nI_len]; rfl
theorem take2 (n : Nat) : List.take (2 * 1) (List.drop 0 (nI (be2 n))) = nI (be2 n) := tk0 _ (Nat.le_of_eq (be2_len n))
theorem tail19_is {k : Nat} {b : List Nat} (h : b.length ≤ 100000) (h0 : b.length ≠ 0) : tail19 b.length (k : Int) (nI b) = some (enB (if 4091 < b.length then ([], 8) else ([16, k] ++ (be2 (4 + b.length) ++ b), 0))) := by
  unfold tail19
  have e : iadd .i64 4 ((b.length : Nat) : Int) = ((4 + b.length : Nat) : Int) := addn (a := 4) (by omega)
  simp only [e, w64 (show 4 + b.length < 2 ^ 64 by omega), h50_2 (show 4 + b.length < 2 ^ 64 by omega), be2_len, take2, Bool.cond_eq_ite, decide_eq_true_eq, Bool.and_eq_true, beq_iff_eq]
  rw [if_neg (by omega)]
  by_cases h4 : 4091 < b.length
  · rw [if_pos (by omega), if_pos h4]; rfl
  have e1 : ([16, (k : Int)] ++ nI (be2 (4 + b.length))) ++ nI b = nI ([16, k] ++ (be2 (4 + b.length) ++ b)) := by simp [nI]
  have e2 : ([16, (k : Int)] ++ nI (be2 (4 + b.length))).length = 4 := rfl
  have e3 : ([16, k] ++ (be2 (4 + b.length) ++ b)).length = 2 + 2 + b.length := by simp [be2]; omega
  have e5 : List.take (b.length * 1) (List.drop 0 (nI b)) = nI b := tk0 _ (by rw [nI_len]; omega)
  rw [if_neg (by omega), if_neg h4, if_pos (by omega), if_pos (by omega), if_pos (by omega), nI_len, if_pos (by omega), e5, e1, e2, nI_len, e3, if_pos ⟨rfl, by omega, by omega⟩, if_pos (by omega), tk0 _ (by rw [nI_len, e3]; exact Nat.le_refl _)]
  rfl
def h319 (p : PkI) := p319 h50 h141 20 p
theorem E319 : EntOK FT XT 319 (en319 h319) := ok319 h50 h141 E50 E141 fun _ _ h => ⟨20, h⟩
theorem h319_is {p : Pk} (g : gK p) : h319 (enK p) = some (enB (lay18 p)) := by
  obtain ⟨g1, g2, g3, g4, g5⟩ := g
  obtain ⟨m, id, l, d⟩ := p
  simp only [] at g1 g2 g3 g4 g5
  have hb := layA_len l g2
  unfold h319 p319
  simp only [enK, nA_len, nI_len]
  cases m
  · simp only [cond_false]
    have e : iadd .i64 4 ((d.length : Nat) : Int) = ((4 + d.length : Nat) : Int) := addn (a := 4) (by omega)
    simp only [e, w64 (show 4 + d.length < 2 ^ 64 by omega), h50_2 (show 4 + d.length < 2 ^ 64 by omega), be2_len, take2, Bool.cond_eq_ite, decide_eq_true_eq, Bool.and_eq_true, beq_iff_eq]
    by_cases h0 : d.length = 0
    · rw [if_pos (by omega), show lay18 (false, id, l, d) = ([], 4) by simp [lay18, body18, h0]]; rfl
    rw [if_neg (by omega)]
    have hd : lay18 (false, id, l, d) = if 4091 < d.length then ([], 8) else ([16, 0] ++ (be2 (4 + d.length) ++ d), 0) := by
      simp only [lay18, body18, Bool.false_eq_true, if_false, if_neg h0, if_true, cond_false]
    rw [hd]
    by_cases h4 : 4091 < d.length
    · rw [if_pos (by omega), if_pos h4]; rfl
    have e1 : ([16, (0 : Int)] ++ nI (be2 (4 + d.length))) ++ nI d = nI ([16, 0] ++ (be2 (4 + d.length) ++ d)) := by simp [nI]
    have e2 : ([16, (0 : Int)] ++ nI (be2 (4 + d.length))).length = 4 := rfl
    have e3 : ([16, 0] ++ (be2 (4 + d.length) ++ d)).length = 2 + 2 + d.length := by simp [be2]; omega
    rw [if_neg (by omega), if_neg h4, if_pos (by omega), if_pos (by omega), if_pos (by omega), e1, e2, nI_len, e3, if_pos ⟨rfl, by omega, by omega⟩, if_pos (by omega), tk0 _ (by rw [nI_len, e3]; exact Nat.le_refl _)]
    rfl
  · simp only [cond_true]
    by_cases h : 8 < l.length
    · rw [decide_eq_true (by omega), cond_true, show lay18 (true, id, l, d) = ([], 5) by simp [lay18, body18, h]]; rfl
    rw [decide_eq_false (by omega), cond_false, w64 (show id < 2 ^ 64 by omega), w64 (show l.length < 2 ^ 64 by omega), h50_2 (by omega), h50_2 (by omega)]
    simp only [be2_len, take2]
    rw [decide_eq_true (by omega), cond_true, show ((2 : Nat) == 2 * 1) = true from rfl, decide_eq_true (by omega), Bool.and_self, Bool.and_self, cond_true]
    have := L319_is (N := 20) (q := tail19) (v4 := 1) (v6 := true) (v7 := (id : Int)) (v9 := nI d) l [] (be2 id ++ be2 l.length) 4 20 rfl (by omega) g2 (by simp; omega) (by simp [be2]; omega)
    rw [nI_app]
    refine Eq.trans this ?_
    by_cases h2 : (layA l).2 = 0
    · have hl : 4 + (layA l).1.length = (be2 id ++ be2 l.length ++ (layA l).1).length := by simp [be2]; omega
      have hm : lay18 (true, id, l, d) = if 4091 < (be2 id ++ be2 l.length ++ (layA l).1).length then ([], 8) else ([16, 1] ++ (be2 (4 + (be2 id ++ be2 l.length ++ (layA l).1).length) ++ (be2 id ++ be2 l.length ++ (layA l).1)), 0) := by
        simp only [lay18, body18, if_true, if_neg h, if_pos h2, cond_true, List.append_assoc]
      rw [if_pos h2, hl]
      have := tail19_is (k := 1) (b := be2 id ++ be2 l.length ++ (layA l).1) (by rw [← hl]; omega) (by rw [← hl]; omega)
      rw [hm]; exact this
    · rw [if_neg h2, show lay18 (true, id, l, d) = ([], (layA l).2) by simp [lay18, body18, h, h2]]; rfl
/-! ### looked at -/
def want18 (id : Nat) : Nat × Nat × Nat := if id = 1 then (1, 1, 1) else if id = 2 then (4, 1, 1) else if id = 3 then (2, 1, 3) else if id = 4 then (3, 1, 1) else if id = 5 then (2, 0, 1) else if id = 6 then (2, 0, 1) else (0, 0, 0)
def checkA : List At → Nat
  | [] => 0
  | a :: t => if check17 a.1 a.2 = 0 then checkA t else check17 a.1 a.2
def check18 (p : Pk) : Nat :=
  if p.1 = false then 0 else if p.2.1 < 1 ∨ 9 < p.2.1 then 9
  else if p.2.2.1.length < (want18 p.2.1).2.1 ∨ (want18 p.2.1).2.2 < p.2.2.1.length ∨ p.2.2.1.any (fun a => a.1 != (want18 p.2.1).1) = true then 1 else checkA p.2.2.1
theorem nbne (a b : Nat) : (((a : Nat) : Int) != ((b : Nat) : Int)) = (a != b) := by unfold bne; rw [nbeq]
def h324 (n : Int) := p324 0 n
theorem E324 : EntOK FT XT 324 (en324 h324) := ok324 fun _ _ h => ⟨0, h⟩
theorem h324_is (x : Nat) : h324 (x : Int) = some (((want18 x).1 : Int), (((want18 x).2.1 : Int), ((want18 x).2.2 : Int))) := by
  unfold h324 p324 want18
  have e1 : ((x : Int) == 1) = (x == 1) := nbeq x 1
  have e2 : ((x : Int) == 2) = (x == 2) := nbeq x 2
  have e3 : ((x : Int) == 3) = (x == 3) := nbeq x 3
  have e4 : ((x : Int) == 4) = (x == 4) := nbeq x 4
  have e5 : ((x : Int) == 5) = (x == 5) := nbeq x 5
  have e6 : ((x : Int) == 6) = (x == 6) := nbeq x 6
  simp only [e1, e2, e3, e4, e5, e6, Bool.cond_eq_ite, beq_iff_eq]
  split
  · rfl
  split
  · rfl
  split
  · rfl
  split
  · rfl
  split
  · rfl
  split
  · rfl
  rfl
def h326 (n : Int) (l k : List Int) := p326v0 0 n l k
theorem R326 : REntOK FT XT 326 (rn326v0 h326) := ok326v0 fun _ _ _ _ h => ⟨0, h⟩
theorem h326_is {n k : Int} {l : List Int} : h326 n l [k] = some ((n != k, ()), ([k], ())) := rfl
theorem L327_is {N k : Nat} : ∀ (t pre : List At) (fuel : Nat), t.length < fuel → (pre ++ t).length ≤ 100000 → ∃ j : Int,
    L327v0_0 h326 N (fun (y7 : List Int) => some (((-1 : Int), ()), (y7, ()))) fuel (nA (pre ++ t)) (((pre ++ t).length : Nat) : Int) ((pre.length : Nat) : Int) [(k : Int)] = some ((j, ()), ([(k : Int)], ())) ∧ decide (j ≥ 0) = t.any (fun a => a.1 != k)
  | [], pre, fuel + 1, _, _ => ⟨-1, by rw [L327v0_0, ltF, cond_false], rfl⟩
  | a :: t, pre, fuel + 1, hf, hn => by
    have hn2 : pre.length + t.length + 1 ≤ 100000 := by simpa [Nat.add_assoc] using hn
    obtain ⟨j, ih1, ih2⟩ := L327_is (N := N) (k := k) t (pre ++ [a]) fuel (by simpa using hf) (by rw [← app1]; exact hn)
    rw [← app1 pre t a] at ih1
    rw [L327v0_0, ltT, cond_true, nA_at]
    simp only [h326_is, show (at1 a).1 = ((a.1 : Nat) : Int) from rfl, nbne, List.any_cons]
    cases (a.1 != k)
    · refine ⟨j, ?_, ?_⟩
      · rw [cond_false, inc1 pre a (by omega)]; exact ih1
      · rw [Bool.false_or]; exact ih2
    · exact ⟨((pre.length : Nat) : Int), rfl, by rw [decide_eq_true (by omega), Bool.true_or]⟩
def h327 (l : List (Int × List Int)) (k : List Int) := p327v0 h326 20 l k
theorem R327 : REntOK FT XT 327 (rn327v0 h327) := ok327v0 h326 R326 fun _ _ _ h => ⟨20, h⟩
def h325 (l : List (Int × List Int)) (k : List Int) := p325v0 h327 0 l k
theorem R325 : REntOK FT XT 325 (rn325v0 h325) := ok325v0 h327 R327 fun _ _ _ h => ⟨0, h⟩
theorem h325_is {k : Nat} {l : List At} (h : l.length ≤ 12) : h325 (nA l) [(k : Int)] = some ((l.any (fun a => a.1 != k), ()), ([(k : Int)], ())) := by
  obtain ⟨j, h1, h2⟩ := L327_is (N := 20) (k := k) l [] 20 (by omega) (by simp; omega)
  have e : h327 (nA l) [(k : Int)] = some ((j, ()), ([(k : Int)], ())) := by
    unfold h327 p327v0
    rw [nA_len]; exact h1
  unfold h325 p325v0
  rw [e]
  simp only [h2]
theorem L323_is {N : Nat} : ∀ (t pre : List At) (fuel : Nat), t.length < fuel → gA t → (pre ++ t).length ≤ 100000 →
    L323_0 h324 h325 h145 N (some 0) fuel (nA (pre ++ t)) (((pre ++ t).length : Nat) : Int) ((pre.length : Nat) : Int) = some ((checkA t : Nat) : Int)
  | [], pre, fuel + 1, _, _, _ => by rw [L323_0, ltF, cond_false]; rfl
  | a :: t, pre, fuel + 1, hf, ht, hn => by
    have hn2 : pre.length + t.length + 1 ≤ 100000 := by simpa [Nat.add_assoc] using hn
    have ih := L323_is (N := N) t (pre ++ [a]) fuel (by simpa using hf) (gA_tail ht) (by rw [← app1]; exact hn)
    rw [← app1 pre t a] at ih
    have e : h145 ((at1 a).1, (at1 a).2) = some (check17 a.1 a.2 : Int) := h145_is (gA_head ht).2.1
    rw [L323_0, ltT, cond_true, nA_at]
    simp only [e]
    by_cases h : check17 a.1 a.2 = 0
    · rw [h, show (((0 : Nat) : Int) != 0) = false from rfl, cond_false, inc1 pre a (by omega), ih, checkA, if_pos h]
    · rw [bne_iff_ne.2 (by omega), cond_true, checkA, if_neg h]
def h323 (p : PkI) := p323 h324 h325 h145 20 p
theorem E323 : EntOK FT XT 323 (en323 h323) := ok323 h324 h325 h145 E324 E145 R325 fun _ _ h => ⟨20, h⟩
theorem h323_is {p : Pk} (g : gK p) : h323 (enK p) = some ((check18 p : Nat) : Int) := by
  obtain ⟨g1, g2, g3, g4, g5⟩ := g
  obtain ⟨m, id, l, d⟩ := p
  simp only [] at g1 g2 g3 g4 g5
  unfold h323 p323 check18
  simp only [enK, nA_len, h324_is, h325_is g3]
  cases m
  · rfl
  simp only [Bool.not_true, cond_false, Bool.true_eq_false, if_false]
  by_cases h1 : id < 1
  · rw [decide_eq_true (by omega), cond_true, if_pos (.inl h1)]; rfl
  rw [decide_eq_false (by omega), cond_false]
  by_cases h9 : 9 < id
  · rw [decide_eq_true (by omega), cond_true, if_pos (.inr h9)]; rfl
  rw [decide_eq_false (by omega), cond_false, if_neg (show ¬ (id < 1 ∨ 9 < id) by omega)]
  by_cases c1 : l.length < (want18 id).2.1
  · rw [decide_eq_true (by omega), cond_true, if_pos (.inl c1)]; rfl
  rw [decide_eq_false (by omega), cond_false]
  by_cases c2 : (want18 id).2.2 < l.length
  · rw [decide_eq_true (by omega), cond_true, if_pos (.inr (.inl c2))]; rfl
  rw [decide_eq_false (by omega), cond_false]
  by_cases c3 : l.any (fun a => a.1 != (want18 id).1) = true
  · rw [c3, cond_true, if_pos (.inr (.inr rfl))]; rfl
  rw [eq_false_of_ne_true c3, cond_false, if_neg (show ¬ (l.length < (want18 id).2.1 ∨ (want18 id).2.2 < l.length ∨ false = true) from fun g => by rcases g with g | g | g <;> first | exact c1 g | exact c2 g | cases g)]
  exact L323_is (N := 20) l [] 20 (by omega) g2 (by simp; omega)
/-! the same by the reference -/
theorem L363_is {N : Nat} : ∀ (t pre : List At) (u prf : List Nat) (fuel : Nat), pre.length = prf.length → t.length = u.length → t.length < fuel → (pre ++ t).length ≤ 100000 →
    L363_0 N (some true) fuel (nA (pre ++ t)) (nI (prf ++ u)) ((pre.length : Nat) : Int) = some (t.map (·.1) == u)
  | [], pre, u, prf, fuel + 1, hp, hl, _, _ => by
    obtain rfl : u = [] := List.length_eq_zero_iff.1 hl.symm
    rw [L363_0, nA_len, ltF, cond_false]; rfl
  | a :: t, pre, [], prf, fuel + 1, hp, hl, _, _ => by cases hl
  | a :: t, pre, b :: u, prf, fuel + 1, hp, hl, hf, hn => by
    have e2 : geti (nI (prf ++ b :: u)) ((pre.length : Nat) : Int) = some ((b : Nat) : Int) := by
      rw [hp, geti_nat, nI_get, List.getElem?_append_right (Nat.le_refl _), Nat.sub_self]; rfl
    have hn2 : pre.length + t.length + 1 ≤ 100000 := by simpa [Nat.add_assoc] using hn
    have ih := L363_is (N := N) t (pre ++ [a]) u (prf ++ [b]) fuel (by rw [len1, hp]; simp) (by simpa using hl) (by simpa using hf) (by rw [← app1]; exact hn)
    rw [← app1 pre t a, show prf ++ [b] ++ u = prf ++ b :: u by simp] at ih
    rw [L363_0, nA_len, ltT, cond_true, nA_at]
    simp only [e2, show (at1 a).1 = ((a.1 : Nat) : Int) from rfl, nbne]
    rw [show ((a :: t).map (·.1) == b :: u) = (a.1 == b && (t.map (·.1) == u)) from rfl]
    unfold bne
    cases (a.1 == b)
    · rfl
    · rw [Bool.not_true, cond_false, Bool.true_and, inc1 pre a (by omega)]; exact ih
def h363 (l : List (Int × List Int)) (k : List Int) := p363 20 l k
theorem E363 : EntOK FT XT 363 (en363 h363) := ok363 fun _ _ _ h => ⟨20, h⟩
theorem h363_is {l : List At} (ks : List Nat) (h : l.length ≤ 12) : h363 (nA l) (nI ks) = some (l.map (·.1) == ks) := by
  unfold h363 p363
  simp only [nA_len, nI_len]
  by_cases e : l.length = ks.length
  · rw [e, bne_self_eq_false, cond_false]
    exact L363_is l [] ks [] 20 rfl e (by omega) (by simp; omega)
  · rw [bne_iff_ne.2 (by omega), cond_true, beq_eq_false_iff_ne.2 (fun g => e (by rw [← g, List.length_map]))]
def has18 (id : Nat) (ks : List Nat) : Bool :=
  if id = 1 then ks == [1] else if id = 2 then ks == [4] else if id = 3 then ks == [2] || (ks == [2, 2] || ks == [2, 2, 2]) else if id = 4 then ks == [3] else if id = 5 then ks == [] || ks == [2] else if id = 6 then ks == [] || ks == [2] else ks == []
def h358 (p : PkI) := p358 h363 0 p
theorem E358 : EntOK FT XT 358 (en358 h358) := ok358 h363 E363 fun _ _ h => ⟨0, h⟩
theorem h358_is {p : Pk} (g : gK p) : h358 (enK p) = some (has18 p.2.1 (p.2.2.1.map (·.1))) := by
  obtain ⟨m, id, l, d⟩ := p
  have h := g.2.2.1
  simp only [] at h
  have k1 : h363 (nA l) [1] = some (l.map (·.1) == [1]) := h363_is [1] h
  have k2 : h363 (nA l) [2] = some (l.map (·.1) == [2]) := h363_is [2] h
  have k3 : h363 (nA l) [3] = some (l.map (·.1) == [3]) := h363_is [3] h
  have k4 : h363 (nA l) [4] = some (l.map (·.1) == [4]) := h363_is [4] h
  have k0 : h363 (nA l) [] = some (l.map (·.1) == []) := h363_is [] h
  have k22 : h363 (nA l) [2, 2] = some (l.map (·.1) == [2, 2]) := h363_is [2, 2] h
  have k222 : h363 (nA l) [2, 2, 2] = some (l.map (·.1) == [2, 2, 2]) := h363_is [2, 2, 2] h
  have e1 : ((id : Int) == 1) = (id == 1) := nbeq id 1
  have e2 : ((id : Int) == 2) = (id == 2) := nbeq id 2
  have e3 : ((id : Int) == 3) = (id == 3) := nbeq id 3
  have e4 : ((id : Int) == 4) = (id == 4) := nbeq id 4
  have e5 : ((id : Int) == 5) = (id == 5) := nbeq id 5
  have e6 : ((id : Int) == 6) = (id == 6) := nbeq id 6
  unfold h358 p358 has18
  simp only [enK, e1, e2, e3, e4, e5, e6, k0, k1, k2, k3, k4, k22, k222]
  generalize (l.map (·.1) == [1]) = b1, (l.map (·.1) == [2]) = b2, (l.map (·.1) == [3]) = b3, (l.map (·.1) == [4]) = b4, (l.map (·.1) == []) = b0, (l.map (·.1) == [2, 2]) = b22, (l.map (·.1) == [2, 2, 2]) = b222
  simp only [Bool.cond_eq_ite, beq_iff_eq]
  split
  · rfl
  split
  · rfl
  split
  · cases b2 <;> cases b22 <;> rfl
  split
  · rfl
  split
  · cases b0 <;> rfl
  split
  · cases b0 <;> rfl
  rfl
theorem has_want {id : Nat} {l : List At} (h1 : ¬ id < 1) (h9 : ¬ 9 < id) : has18 id (l.map (·.1)) = false ↔ (l.length < (want18 id).2.1 ∨ (want18 id).2.2 < l.length ∨ l.any (fun a => a.1 != (want18 id).1) = true) := by
  rcases (show id = 1 ∨ id = 2 ∨ id = 3 ∨ id = 4 ∨ id = 5 ∨ id = 6 ∨ id = 7 ∨ id = 8 ∨ id = 9 by omega) with rfl | rfl | rfl | rfl | rfl | rfl | rfl | rfl | rfl <;>
    match l with
    | [] => simp [has18, want18]
    | [a] => simp [has18, want18]
    | [a, b] => simp [has18, want18] <;> omega
    | [a, b, c] => simp [has18, want18] <;> omega
    | a :: b :: c :: d :: t => simp [has18, want18] <;> omega
theorem L340_is {N : Nat} {v3 : Bool} {v4 : Int} {v6 : List Int} : ∀ (t pre : List At) (fuel : Nat), t.length < fuel → gA t → (pre ++ t).length ≤ 100000 →
    L340_0 h358 h146 N (some 0) fuel ((pre.length : Nat) : Int) v3 v4 (nA (pre ++ t)) v6 = some ((checkA t : Nat) : Int)
  | [], pre, fuel + 1, _, _, _ => by rw [L340_0, nA_len, ltF, cond_false]; rfl
  | a :: t, pre, fuel + 1, hf, ht, hn => by
    have hn2 : pre.length + t.length + 1 ≤ 100000 := by simpa [Nat.add_assoc] using hn
    have ih := L340_is (N := N) (v3 := v3) (v4 := v4) (v6 := v6) t (pre ++ [a]) fuel (by simpa using hf) (gA_tail ht) (by rw [← app1]; exact hn)
    rw [← app1 pre t a] at ih
    have e : h146 ((at1 a).1, (at1 a).2) = some (check17 a.1 a.2 : Int) := h146_is (gA_head ht).2.1
    rw [L340_0, nA_len, ltT, cond_true, nA_at]
    simp only [e]
    by_cases h : check17 a.1 a.2 = 0
    · rw [h, show (((0 : Nat) : Int) != 0) = false from rfl, cond_false, inc1 pre a (by omega), ih, checkA, if_pos h]
    · rw [bne_iff_ne.2 (by omega), cond_true, checkA, if_neg h]
def h340 (p : PkI) := p340 h358 h146 20 p
theorem E340 : EntOK FT XT 340 (en340 h340) := ok340 h358 h146 E358 E146 fun _ _ h => ⟨20, h⟩
theorem h340_is {p : Pk} (g : gK p) : h340 (enK p) = some ((check18 p : Nat) : Int) := by
  have e := h358_is g
  obtain ⟨g1, g2, g3, g4, g5⟩ := g
  obtain ⟨m, id, l, d⟩ := p
  simp only [enK] at g1 g2 g3 g4 g5 e
  unfold h340 p340 check18
  simp only [enK, nA_len, e]
  cases m
  · rfl
  simp only [Bool.not_true, cond_false, Bool.true_eq_false, if_false]
  by_cases h1 : id < 1
  · rw [decide_eq_true (by omega), cond_true, if_pos (.inl h1)]; rfl
  rw [decide_eq_false (by omega), cond_false]
  by_cases h9 : 9 < id
  · rw [decide_eq_true (by omega), cond_true, if_pos (.inr h9)]; rfl
  rw [decide_eq_false (by omega), cond_false, if_neg (show ¬ (id < 1 ∨ 9 < id) by omega)]
  by_cases c : has18 id (l.map (·.1)) = false
  · rw [c, if_pos ((has_want h1 h9).1 c)]; rfl
  · rw [eq_true_of_ne_false c, if_neg (fun g => c ((has_want h1 h9).2 g)), Bool.not_true, cond_false]
    exact L340_is (N := 20) l [] 20 (by omega) g2 (by simp; omega)
/-! ### far, and handed over -/
theorem L337_is {N : Nat} {q : Bool → Int → List (Int × (List Int)) → List Int → Option Bool} {v4 : Bool} {v5 : Int} {v6 : List (Int × List Int)} {v7 : List Int} : ∀ (t pre : List At) (fuel : Nat), t.length < fuel → (pre ++ t).length ≤ 100000 →
    L337_0 N q fuel (nA (pre ++ t)) (((pre ++ t).length : Nat) : Int) ((pre.length : Nat) : Int) v4 v5 v6 v7 = bif t.any (fun a => decide (4200 < a.2.length)) then some true else q v4 v5 v6 v7
  | [], pre, fuel + 1, _, _ => by rw [L337_0, ltF, cond_false]; rfl
  | a :: t, pre, fuel + 1, hf, hn => by
    have hn2 : pre.length + t.length + 1 ≤ 100000 := by simpa [Nat.add_assoc] using hn
    have ih := L337_is (N := N) (q := q) (v4 := v4) (v5 := v5) (v6 := v6) (v7 := v7) t (pre ++ [a]) fuel (by simpa using hf) (by rw [← app1]; exact hn)
    rw [← app1 pre t a] at ih
    rw [L337_0, ltT, cond_true, nA_at, List.any_cons]
    simp only [show (at1 a).2.length = a.2.length from nI_len _]
    by_cases h : 4200 < a.2.length
    · rw [decide_eq_true h, decide_eq_true (show ((a.2.length : Nat) : Int) > 4200 by omega), Bool.true_or]; rfl
    · rw [decide_eq_false h, decide_eq_false (show ¬ ((a.2.length : Nat) : Int) > 4200 by omega), cond_false, inc1 pre a (by omega), Bool.false_or]; exact ih
def h337 (p : PkI) := p337 20 p
theorem E337 : EntOK FT XT 337 (en337 h337) := ok337 fun _ _ h => ⟨20, h⟩
theorem min12 (n : Nat) : (if (12 : Int) < ((n : Nat) : Int) then (12 : Int) else ((n : Nat) : Int)) = ((min n 12 : Nat) : Int) := by split <;> omega
theorem nA_take (l : List At) (n : Nat) : List.take n (nA l) = nA (l.take n) := List.map_take.symm
theorem h337_is (p : Pk) : ∃ r, h337 (enK p) = some r ∧ (r = false → p.2.2.1.length ≤ 12 ∧ p.2.2.2.length ≤ 5000 ∧ ∀ a ∈ p.2.2.1, a.2.length ≤ 4200) := by
  obtain ⟨m, id, l, d⟩ := p
  unfold h337 p337
  simp only [enK, nA_len, nI_len, min12, Int.toNat_natCast, nA_take]
  rw [decide_eq_true (by omega), decide_eq_true (by omega), Bool.and_self, cond_true]
  have hl : (l.take (min l.length 12)).length ≤ 12 := by rw [List.length_take]; omega
  have := L337_is (N := 20) (v4 := m) (v5 := (id : Int)) (v6 := nA l) (v7 := nI d) (q := fun (y9 : Bool) (y10 : Int) (y11 : List (Int × (List Int))) (y12 : List Int) =>
        bif (decide ((((List.length y11) : Nat) : Int) > (12 : Int))) then
          some true
        else
          some (decide ((((List.length y12) : Nat) : Int) > (5000 : Int)))) (l.take (min l.length 12)) [] 20 (by omega) (by simp; omega)
  rw [List.nil_append] at this
  cases hA : (l.take (min l.length 12)).any (fun a => decide (4200 < a.2.length))
  · rw [hA, cond_false] at this
    by_cases h12 : 12 < l.length
    · exact ⟨true, this.trans (by rw [nA_len, decide_eq_true (by omega), cond_true]), fun h => by cases h⟩
    · refine ⟨_, this.trans (by rw [nA_len, decide_eq_false (by omega), cond_false]), fun h => ⟨by omega, ?_, ?_⟩⟩
      · have := of_decide_eq_false h; rw [nI_len] at this; show d.length ≤ 5000; omega
      · intro a ha
        rw [Nat.min_eq_left (by omega), List.take_length] at hA
        have := List.any_eq_false.1 hA a ha
        simp at this; exact this
  · rw [hA, cond_true] at this
    exact ⟨true, this, fun h => by cases h⟩
theorem nA_snoc (l : List At) (a : At) : nA (l ++ [a]) = nA l ++ [at1 a] := by simp [nA]
theorem flat_snoc (l : List shA.T) (a : shA.T) : flat shA (l ++ [a]) = flat shA l ++ [(V.int .u8 a.1), (V.tb (Sh.int .u8) a.2)] := by
  unfold flat; rw [List.flatMap_append]; rfl
theorem L339_is {N : Nat} {q : Bool → Int → Bool → Int → Nat → List Int → List V → Option (Bool × Int × (List (Int × (List Int))) × (List Int))} {v4 v6 : Bool} {v5 v7 : Int} {v9 : List Int} : ∀ (t pre : List At) (fuel : Nat), t.length < fuel → (pre ++ t).length ≤ 100000 →
    L339_0 N q fuel (nA (pre ++ t)) (((pre ++ t).length : Nat) : Int) ((pre.length : Nat) : Int) v4 v5 v6 v7 pre.length v9 (flat shA (nA pre)) = q v4 v5 v6 v7 (pre ++ t).length v9 (flat shA (nA (pre ++ t)))
  | [], pre, fuel + 1, _, _ => by rw [L339_0, ltF, cond_false, List.append_nil]
  | a :: t, pre, fuel + 1, hf, hn => by
    have hn2 : pre.length + t.length + 1 ≤ 100000 := by simpa [Nat.add_assoc] using hn
    have ih := L339_is (N := N) (q := q) (v4 := v4) (v5 := v5) (v6 := v6) (v7 := v7) (v9 := v9) t (pre ++ [a]) fuel (by simpa using hf) (by rw [← app1]; exact hn)
    rw [← app1 pre t a, nA_snoc, flat_snoc] at ih
    rw [L339_0, ltT, cond_true, nA_at]
    simp only []
    rw [flatA_len, nA_len, beq_self_eq_true, Bool.true_and, decide_eq_true (by omega), decide_eq_true (by omega), Bool.and_self, cond_true, inc1 pre a (by omega), ← len1 pre a]
    exact ih
def h339 (p : PkI) := p339 20 p
theorem E339 : EntOK FT XT 339 (en339 h339) := ok339 fun _ _ h => ⟨20, h⟩
theorem h339_is {p : Pk} (h : p.2.2.1.length ≤ 12) : h339 (enK p) = some (enK p) := by
  obtain ⟨m, id, l, d⟩ := p
  simp only [] at h
  unfold h339 p339
  simp only [enK, nA_len]
  refine (L339_is (N := 20) l [] 20 (by omega) (by simp; omega)).trans ?_
  rw [List.nil_append]
  have hl : l.length * 2 = (flat shA (nA l)).length := by rw [flatA_len, nA_len]
  have r : rowsOf shA l.length (flat shA (nA l)) = some (nA l) := by
    have := rowsA_of (L := nA l) (by rw [nA_len]; omega)
    rw [nA_len] at this; exact this
  rw [decide_eq_true (by omega), cond_true, hl, List.drop_zero, List.take_length, r]
end Go.Proofs.YteagngpgghnlmaaE
