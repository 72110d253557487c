/- Chapter 18: packets laid, parsed, looked at. -/
import Derived.Test.YtciafmcbccgggaaEvzC17L
namespace Go.Proofs.YtciafmcbccgggaaE
open Go
set_option linter.unusedSimpArgs false
set_option linter.unusedVariables false

abbrev At := Nat × List Nat
abbrev Pk := Bool × Nat × List At × List Nat
abbrev PkI := Bool × Int × List (Int × List Int) × List Int
def at1 (a : At) : Int × List Int := ((a.1 : Int), nI a.2)
def nA (l : List At) : List (Int × List Int) := l.map at1
abbrev enK (p : Pk) : PkI := (p.1, ((p.2.1 : Int), (nA p.2.2.1, nI p.2.2.2)))
theorem nA_len (l : List At) : (nA l).length = l.length := List.length_map ..
def gA (l : List At) : Prop := ∀ a ∈ l, a.1 < 256 ∧ bel 256 a.2 ∧ a.2.length ≤ 5000
def gK (p : Pk) : Prop := p.2.1 < 65536 ∧ gA p.2.2.1 ∧ p.2.2.1.length ≤ 12 ∧ bel 256 p.2.2.2 ∧ p.2.2.2.length ≤ 5000
theorem nA_at (pre t : List At) (a : At) : geti (nA (pre ++ a :: t)) ((pre.length : Nat) : Int) = some (at1 a) := by
 rw [geti_nat, nA, List.getElem?_map, List.getElem?_append_right (Nat.le_refl _), Nat.sub_self]; rfl
theorem gA_tail {a : At} {t : List At} (h : gA (a :: t)) : gA t := fun x hx => h x (List.mem_cons_of_mem _ hx)
theorem gA_head {a : At} {t : List At} (h : gA (a :: t)) : a.1 < 256 ∧ bel 256 a.2 ∧ a.2.length ≤ 5000 := h a (by simp)
theorem app1 (pre t : List At) (a : At) : pre ++ a :: t = pre ++ [a] ++ t := by simp
theorem len1 (pre : List At) (a : At) : (pre ++ [a]).length = pre.length + 1 := by simp
theorem ltF (pre : List At) : decide (((pre.length : Nat) : Int) < (((pre ++ ([] : List At)).length : Nat) : Int)) = false := by simp
theorem ltT (pre t : List At) (a : At) : decide (((pre.length : Nat) : Int) < (((pre ++ a :: t).length : Nat) : Int)) = true := by simp; omega
theorem inc1 (pre : List At) (a : At) (h : pre.length ≤ 100000) : iadd .i64 ((pre.length : Nat) : Int) 1 = (((pre ++ [a]).length : Nat) : Int) := by
 rw [len1]; exact addn (a := pre.length) (b := 1) (by omega)
theorem L313_is {N : Nat} : ∀ (t u pre prf : List At) (fuel : Nat), pre.length = prf.length → t.length = u.length → t.length < fuel → gA t → gA u → (pre ++ t).length ≤ 100000 →
  L313v0_0 h144 N (some ((true, ()), ())) fuel (nA (prf ++ u)) (nA (pre ++ t)) (((pre ++ t).length : Nat) : Int) ((pre.length : Nat) : Int) = some ((t == u, ()), ())
 | [], u, pre, prf, fuel + 1, hp, hl, _, _, _, _ => by
  obtain rfl : u = [] := List.length_eq_zero_iff.1 hl.symm
  rw [L313v0_0, ltF, cond_false]; rfl
 | a :: t, [], pre, prf, fuel + 1, hp, hl, _, _, _, _ => by cases hl
 | a :: t, b :: u, pre, prf, fuel + 1, hp, hl, hf, ht, hu, hn => by
  have e2 : geti (nA (prf ++ b :: u)) ((pre.length : Nat) : Int) = some (at1 b) := by rw [hp]; exact nA_at prf u b
  have e3 : h144 ((at1 a).1, (at1 a).2) ((at1 b).1, (at1 b).2) = some (a.1 == b.1 && a.2 == b.2) := h144_is (gA_head ht).2.1 (gA_head hu).2.1
  have hn2 : pre.length + t.length + 1 ≤ 100000 := by simpa [Nat.add_assoc] using hn
  have ih := L313_is (N := N) t u (pre ++ [a]) (prf ++ [b]) fuel (by rw [len1, len1, hp]) (by simpa using hl) (by simpa using hf) (gA_tail ht) (gA_tail hu) (by rw [← app1]; exact hn)
  rw [L313v0_0, ltT, cond_true, nA_at]
  simp only [e2, e3]
  rw [show (a :: t == b :: u) = ((a.1 == b.1 && a.2 == b.2) && (t == u)) from rfl]
  cases (a.1 == b.1 && a.2 == b.2)
  ·rfl
  ·rw [Bool.not_true, cond_false, Bool.true_and, inc1 pre a (by omega)]
   rw [← app1 pre t a, ← app1 prf u b] at ih
   exact ih
def h313 (a b : List (Int × List Int)) := p313v0 h144 20 a b
theorem R313 : REntOK FT XT 313 (rn313v0 h313) := ok313v0 h144 E144 fun _ _ _ h => ⟨20, h⟩
theorem h313_is {t u : List At} (ht : gA t) (hu : gA u) (hl : t.length ≤ 12) : h313 (nA t) (nA u) = some ((t == u, ()), ()) := by
 unfold h313 p313v0
 simp only [nA_len]
 by_cases h : t.length = u.length
 ·rw [h, bne_self_eq_false, cond_false, ← h]
  exact L313_is t u [] [] 20 rfl h (by omega) ht hu (by simp; omega)
 ·rw [bne_iff_ne.2 (by omega), cond_true, beq_eq_false_iff_ne.2 (fun e => h (by rw [e]))]
def h302 (a b : PkI) := p302 h313 h160 0 a b
theorem E302 : EntOK FT XT 302 (en302 h302) := ok302 h313 h160 E160 R313 fun _ _ _ h => ⟨0, h⟩
theorem pk_beq (p q : Pk) : (p == q) = (p.1 == q.1 && (p.2.1 == q.2.1 && (p.2.2.1 == q.2.2.1 && p.2.2.2 == q.2.2.2))) := rfl
theorem h302_is {p q : Pk} (gp : gK p) (gq : gK q) : h302 (enK p) (enK q) = some (p == q) := by
 unfold h302 p302
 rw [pk_beq]
 simp only [enK, nbeq, h313_is gp.2.1 gq.2.1 gp.2.2.1, h160_is gp.2.2.2.1 gq.2.2.2.1]
 cases (p.1 == q.1) <;> cases (p.2.1 == q.2.1) <;> cases (p.2.2.1 == q.2.2.1) <;> cases (p.2.2.2 == q.2.2.2) <;> rfl
def f320 (l : List (Int × List Int)) : Option (List (Int × List Int)) := if l.length ≤ 80000 then some l else none
theorem f320_is {l : List (Int × List Int)} (h : l.length ≤ 80000) : f320 l = some l := if_pos h
theorem E320 : EntOK FT XT 320 (en320 f320) := ⟨rfl, fun v r h => by
 refine ⟨1, ?_⟩
 obtain ⟨l, u⟩ := v
 replace h : f320 l = some r := h
 unfold f320 at h
 split at h <;> try (cases h; done)
 rename_i hl
 injection h with h; subst h
 simp only [evF, show FT 320 = none from rfl]
 show (if l.length ≤ 80000 then some (V.tb shA l, ([] : List Blk)) else none) = _
 rw [if_pos hl]; rfl⟩
def h316 (n : Int) (l : List (Int × List Int)) := p316 f320 0 n l
theorem E316 : EntOK FT XT 316 (en316 h316) := ok316 f320 E320 fun _ _ _ h => ⟨0, h⟩
theorem h316_is {n : Int} {l : List (Int × List Int)} (h : l.length ≤ 80000) : h316 n l = some (true, (n, (l, []))) := by
 unfold h316 p316
 rw [f320_is h]
def layA : List At → List Nat × Nat
 | [] => ([], 0)
 | a :: t => if (lay17 a.1 a.2).2 = 0 then (if (layA t).2 = 0 then ((lay17 a.1 a.2).1 ++ (layA t).1, 0) else ([], (layA t).2)) else ([], (lay17 a.1 a.2).2)
theorem layA_1 {a : At} {t : List At} (h : (lay17 a.1 a.2).2 = 0) (g : (layA t).2 = 0) : layA (a :: t) = ((lay17 a.1 a.2).1 ++ (layA t).1, 0) := (if_pos h).trans (if_pos g)
theorem layA_2 {a : At} {t : List At} (h : (lay17 a.1 a.2).2 = 0) (g : (layA t).2 ≠ 0) : layA (a :: t) = ([], (layA t).2) := (if_pos h).trans (if_neg g)
theorem layA_3 {a : At} {t : List At} (h : (lay17 a.1 a.2).2 ≠ 0) : layA (a :: t) = ([], (lay17 a.1 a.2).2) := if_neg h
theorem layA_len : ∀ l : List At, gA l → (layA l).1.length ≤ 5004 * l.length
 | [], _ => Nat.zero_le _
 | a :: t, h => by
  have h1 := lay17_len a.1 a.2
  have h2 := (gA_head h).2.2
  have h3 := layA_len t (gA_tail h)
  unfold layA
  split
  ·split
   ·rw [List.length_append, List.length_cons]; omega
   ·exact Nat.zero_le _
  ·exact Nat.zero_le _
theorem layA_bel : ∀ l : List At, gA l → bel 256 (layA l).1
 | [], _ => fun x hx => by cases hx
 | a :: t, h => by
  unfold layA
  split
  ·split
   ·exact bel_app (lay17_bel (gA_head h).1 (gA_head h).2.1) (layA_bel t (gA_tail h))
   ·exact fun x hx => by cases hx
  ·exact fun x hx => by cases hx
def body18 (p : Pk) : List Nat × Nat :=
 if p.1 = true then (if 8 < p.2.2.1.length then ([], 5) else if (layA p.2.2.1).2 = 0 then (be2 p.2.1 ++ (be2 p.2.2.1.length ++ (layA p.2.2.1).1), 0) else ([], (layA p.2.2.1).2))
 else if p.2.2.2.length = 0 then ([], 4) else (p.2.2.2, 0)
def lay18 (p : Pk) : List Nat × Nat :=
 if (body18 p).2 = 0 then (if 4091 < (body18 p).1.length then ([], 8) else ([16, cond p.1 1 0] ++ (be2 (4 + (body18 p).1.length) ++ (body18 p).1), 0)) else ([], (body18 p).2)
theorem body18_len {p : Pk} (g : gK p) : (body18 p).1.length ≤ 100000 := by
 have h1 := layA_len _ g.2.1
 have h2 := g.2.2.1
 have h3 := g.2.2.2.2
 unfold body18
 split
 ·split
  ·exact Nat.zero_le _
  ·split
   ·simp [be2]; omega
   ·exact Nat.zero_le _
 ·split
  ·exact Nat.zero_le _
  ·show p.2.2.2.length ≤ _; omega
def h322 (n : Int) := p322 h19 0 n
theorem E322 : EntOK FT XT 322 (en322 h322) := ok322 h19 E19 fun _ _ h => ⟨0, h⟩
theorem h322_is {n : Nat} (h : n < 2 ^ 64) : h322 (n : Int) = some (nI (be2 n)) := by
 unfold h322 p322
 rw [w64 h, put_be2]
theorem L321_is {N : Nat} {q : Nat → List Int → Option ((List Int) × Int)} : ∀ (t pre : List At) (acc : List Nat) (k fuel : Nat), k = acc.length → t.length < fuel → gA t → (pre ++ t).length ≤ 100000 → acc.length + 5004 * t.length ≤ 1000000000 →
  L321_0 h322 f1 h139 N q fuel k (nA (pre ++ t)) (((pre ++ t).length : Nat) : Int) ((pre.length : Nat) : Int) (nI acc) = if (layA t).2 = 0 then q (k + (layA t).1.length) (nI (acc ++ (layA t).1)) else some ([], ((layA t).2 : Int))
 | [], pre, acc, k, fuel + 1, _, _, _, _, _ => by
  rw [L321_0, ltF, cond_false, if_pos (show (layA []).2 = 0 from rfl), show (layA []).1 = [] from rfl, List.append_nil]; rfl
 | a :: t, pre, acc, k, fuel + 1, hk, hf, ht, hn, hc => by
  have e3 : h139 ((at1 a).1, (at1 a).2) = some (enB (lay17 a.1 a.2)) := h139_is (by have := (gA_head ht).2.2; omega)
  have hl := lay17_len a.1 a.2
  have ha := (gA_head ht).2.2
  have hn2 : pre.length + t.length + 1 ≤ 100000 := by simpa [Nat.add_assoc] using hn
  rw [List.length_cons] at hc
  have ih := L321_is (N := N) (q := q) t (pre ++ [a]) (acc ++ (lay17 a.1 a.2).1) (k + (lay17 a.1 a.2).1.length) fuel (by rw [List.length_append, hk]) (by simpa using hf) (gA_tail ht) (by rw [← app1]; exact hn) (by rw [List.length_append]; omega)
  rw [L321_0, ltT, cond_true, nA_at]
  simp only [e3, enB]
  by_cases h : (lay17 a.1 a.2).2 = 0
  ·rw [h, show (((0 : Nat) : Int) != 0) = false from rfl, cond_false]
   rw [show ((nI acc).length == k * 1) = true from beq_iff_eq.2 (by rw [nI_len]; omega), nI_len, Bool.true_and, decide_eq_true (by omega), decide_eq_true (by omega), Bool.and_self, cond_true, inc1 pre a (by omega), nI_app]
   rw [← app1 pre t a] at ih
   rw [ih]
   by_cases g : (layA t).2 = 0
   ·rw [layA_1 h g, if_pos g, if_pos rfl, List.length_append, Nat.add_assoc, List.append_assoc]
   ·rw [layA_2 h g, if_neg g, if_neg g]
  ·rw [layA_3 h, if_neg h, bne_iff_ne.2 (by omega), cond_true]
def h321 (p : PkI) := p321 h322 f1 h139 20 p
theorem E321 : EntOK FT XT 321 (en321 h321) := ok321 h322 f1 h139 E322 E46 E139 fun _ _ h => ⟨20, h⟩
theorem h321_is {p : Pk} (g : gK p) : h321 (enK p) = some (enB (body18 p)) := by
 obtain ⟨g1, g2, g3, g4, g5⟩ := g
 obtain ⟨m, id, l, d⟩ := p
 unfold h321 p321 body18
 simp only [enK, nA_len, nI_len]
 simp only [] at g1 g2 g3 g4 g5
 cases m
 ·simp only [Bool.not_false, cond_true, Bool.false_eq_true, if_false]
  by_cases h : d.length = 0
  ·rw [if_pos h, h]; rfl
  ·rw [if_neg h, beq_eq_false_iff_ne.2 (by omega), cond_false]; rfl
 ·simp only [Bool.not_true, cond_false, if_true]
  by_cases h : 8 < l.length
  ·rw [if_pos h, decide_eq_true (by omega)]; rfl
  rw [if_neg h, decide_eq_false (by omega), cond_false, wrap_i64 (by omega) (by omega), h322_is (by omega), h322_is (by omega)]
  have j : f1 [nI (be2 id), nI (be2 l.length)] = some (nI (be2 id ++ be2 l.length)) := by
   rw [f1_is (by simp) (by simp [nI_len, be2])]; simp [nI]
  simp only [j, nI_len]
  have := L321_is (N := 20) (q := fun (y16 : Nat) (y17 : List Int) =>
         bif (decide ((0 + (y16 * 1)) ≤ (List.length y17))) then
          some ((List.take y16 (List.drop 0 y17)), (0 : Int))
         else none) l [] (be2 id ++ be2 l.length) (be2 id ++ be2 l.length).length 20 rfl (by omega) g2 (by simp; omega) (by simp [be2]; omega)
  refine Eq.trans this ?_
  by_cases h2 : (layA l).2 = 0
  ·rw [if_pos h2, if_pos h2]
   have e : (be2 id ++ be2 l.length).length + (layA l).1.length = (nI (be2 id ++ be2 l.length ++ (layA l).1)).length := by rw [nI_len, List.length_append (as := be2 id ++ be2 l.length)]
   rw [e, decide_eq_true (by omega), cond_true, List.drop_zero, List.take_length, List.append_assoc]; rfl
  ·rw [if_neg h2, if_neg h2]; rfl
theorem join18 {x : Nat} {a b : List Nat} (ha : a.length ≤ 100) (hb : b.length ≤ 1000000) : f1 [[16, (x : Int)], nI a, nI b] = some (nI ([16, x] ++ (a ++ b))) := join3 (a := [16, x]) (by simp; omega)
def h317 (p : PkI) := p317 h321 h322 f1 0 p
theorem E317 : EntOK FT XT 317 (en317 h317) := ok317 h321 h322 f1 E321 E322 E46 fun _ _ h => ⟨0, h⟩
theorem h317_is {p : Pk} (g : gK p) : h317 (enK p) = some (enB (lay18 p)) := by
 have e := h321_is g
 have hb := body18_len g
 unfold h317 p317 lay18
 rw [show ((enK p).1, ((enK p).2.1, ((enK p).2.2.1, (enK p).2.2.2))) = enK p from rfl, e]
 simp only [enB, nI_len]
 by_cases h : (body18 p).2 = 0
 ·rw [if_pos h, h, show (((0 : Nat) : Int) != 0) = false from rfl, cond_false, show iadd .i64 4 (((body18 p).1.length : Nat) : Int) = ((4 + (body18 p).1.length : Nat) : Int) from addn (a := 4) (by omega)]
  by_cases h4 : 4091 < (body18 p).1.length
  ·rw [if_pos h4, decide_eq_true (by omega), cond_true]; rfl
  ·rw [if_neg h4, decide_eq_false (by omega), cond_false, h322_is (by omega), show (enK p).1 = p.1 from rfl]
   have j1 := join18 (x := 1) (a := be2 (4 + (body18 p).1.length)) (b := (body18 p).1) (by simp [be2]) (by omega)
   have j0 := join18 (x := 0) (a := be2 (4 + (body18 p).1.length)) (b := (body18 p).1) (by simp [be2]) (by omega)
   have fin : ∀ l : List Int, (bif decide (0 + l.length * 1 ≤ l.length) then some (List.take l.length (List.drop 0 l), (0 : Int)) else none) = some (l, 0) := fun l => by
    rw [decide_eq_true (by omega), cond_true, List.drop_zero, List.take_length]
   cases p.1
   ·simp only [cond_false]
    rw [show ([16, 0] : List Int) = [16, ((0 : Nat) : Int)] from rfl, j0]
    exact fin _
   ·simp only [cond_true]
    rw [show ([16, 1] : List Int) = [16, ((1 : Nat) : Int)] from rfl, j1]
    exact fin _
 ·rw [if_neg h, bne_iff_ne.2 (by omega), cond_true]; rfl
theorem nA_snoc (l : List At) (a : At) : nA (l ++ [a]) = nA l ++ [at1 a] := by simp [nA]
theorem flat_snoc (l : List shA.T) (a : shA.T) : flat shA (l ++ [a]) = flat shA l ++ [(V.int .u8 a.1), (V.tb (Sh.int .u8) a.2)] := by
 unfold flat; rw [List.flatMap_append]; rfl
end Go.Proofs.YtciafmcbccgggaaE
