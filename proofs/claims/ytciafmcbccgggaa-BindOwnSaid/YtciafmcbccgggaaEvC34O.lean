/- Chapter 34: a bound packet is fine for its own key, nonce and hash. -/
import Derived.Test.YtciafmcbccgggaaEvC34A
namespace Go.Proofs.YtciafmcbccgggaaE
open Go
set_option linter.unusedSimpArgs false
set_option linter.unusedVariables false
set_option maxRecDepth 4000

theorem tdl {x : List Int} (h : x.length = 96) {k : Nat} (hk : k ≤ 64) : (List.take 32 (List.drop k x)).length = 32 := by
  rw [List.length_take, List.length_drop, h]; omega
theorem p287_is {c297 : D297} {c298 : D298} {c299 : D299} {c300 : D300} {c301 : D301} {a b : List Int} {p q : PkI} {S : List Int} (ha : a.length = 96) (hb : b.length = 96) (hS : S.length = 32)
    (F1 : c297 (List.take 32 (List.drop 0 a)) (List.take 32 (List.drop 32 a)) (List.take 32 (List.drop 64 a)) = some p)
    (F2 : c298 p (List.take 32 (List.drop 0 a)) (List.take 32 (List.drop 32 a)) (List.take 32 (List.drop 64 a)) = some 0)
    (F3 : (List.take 32 (List.drop 32 b) == List.take 32 (List.drop 32 a)) = false → c298 p (List.take 32 (List.drop 0 a)) (List.take 32 (List.drop 32 b)) (List.take 32 (List.drop 64 a)) = some 10)
    (F4 : (List.take 32 (List.drop 64 b) == List.take 32 (List.drop 64 a)) = false → c298 p (List.take 32 (List.drop 0 a)) (List.take 32 (List.drop 32 a)) (List.take 32 (List.drop 64 b)) = some 14)
    (F5 : c299 p = some (q, 0)) (F6 : c300 p (List.take 32 (List.drop 0 a)) = some (S, 0)) (F7 : c300 q (List.take 32 (List.drop 0 a)) = some (S, 0)) (F8 : c301 = some true) : p287 c297 c298 c299 c300 c301 0 a b = some true := by
  have k0 := tdl ha (k := 32) (by decide)
  have k1 := tdl ha (k := 64) (by decide)
  have k2 := tdl hb (k := 32) (by decide)
  have k3 := tdl hb (k := 64) (by decide)
  have f := fill (r := S) (z := [(0 : Int), 0, 0, 0, 0, 0, 0, 0, 0, 0, 0, 0, 0, 0, 0, 0, 0, 0, 0, 0, 0, 0, 0, 0, 0, 0, 0, 0, 0, 0, 0, 0]) (hS.trans (by decide))
  unfold p287
  rw [show decide (32 ≤ a.length) = true from decide_eq_true (by omega), show decide (64 ≤ a.length) = true from decide_eq_true (by omega), show decide (96 ≤ a.length) = true from decide_eq_true (by omega), show decide (64 ≤ b.length) = true from decide_eq_true (by omega), show decide (96 ≤ b.length) = true from decide_eq_true (by omega), k0, k1, k2, k3, F1]
  simp only [cond_true, beq_self_eq_true, Bool.and_self]
  rw [show (p.1, (p.2.1, (p.2.2.1, p.2.2.2))) = p from rfl, F2, F5, F6]
  simp only [bne_self_eq_false, cond_false]
  rw [show (q.1, (q.2.1, (q.2.2.1, q.2.2.2))) = q from rfl, F7]
  simp only []
  rw [f, tk hS]
  simp only [hS, F8, Nat.le_refl, decide_true, cond_true, cond_false, Nat.reduceLeDiff, Nat.reduceAdd, beq_self_eq_true, bne_self_eq_false, Bool.and_self, Bool.not_true, Bool.not_false]
  cases e1 : (List.take 32 (List.drop 32 b) == List.take 32 (List.drop 32 a)) with
  | true =>
    cases e2 : (List.take 32 (List.drop 64 b) == List.take 32 (List.drop 64 a)) with
    | true => rfl
    | false => rw [F4 e2]; rfl
  | false =>
    rw [F3 e1]
    cases e2 : (List.take 32 (List.drop 64 b) == List.take 32 (List.drop 64 a)) with
    | true => rfl
    | false => rw [F4 e2]; rfl
theorem nI_part {x : List Nat} (k : Nat) : List.take 32 (List.drop k (nI x)) = nI ((x.drop k).take 32) := by rw [nI_drop, nI_take]
theorem part_len {x : List Nat} (h : x.length = 96) {k : Nat} (hk : k ≤ 64) : ((x.drop k).take 32).length = 32 := by
  rw [List.length_take, List.length_drop, h]; omega
def f287 (a b : List Int) := p287 h297 h298 h299 h300 f301 0 a b
theorem E287 : EntOK FT XT 287 (en287 f287) := ok287 h297 h298 h299 h300 f301 E297 E298 E299 E300 E301 fun _ _ _ h => ⟨0, h⟩
theorem f287_is {x y : List Nat} (hx : x.length = 96) (hy : y.length = 96) (bx : bel 256 x) (by' : bel 256 y) : f287 (nI x) (nI y) = some true := by
  have pl := fun k hk => part_len hx (k := k) hk
  have ql := fun k hk => part_len hy (k := k) hk
  have pb : ∀ k, bel 256 ((x.drop k).take 32) := fun k => bel_take (bel_drop bx)
  have qb : ∀ k, bel 256 ((y.drop k).take 32) := fun k => bel_take (bel_drop by')
  have l0 := pl 0 (by decide)
  have l1 := pl 32 (by decide)
  have l2 := pl 64 (by decide)
  have m1 := ql 32 (by decide)
  have m2 := ql 64 (by decide)
  have ls := sl34_len ((x.drop 0).take 32) ((x.drop 32).take 32) ((x.drop 64).take 32)
  have bs := sl34_bel ((x.drop 0).take 32) ((x.drop 32).take 32) ((x.drop 64).take 32)
  have C := fun {n' h' : List Nat} (hn' : n'.length = 32) (hh' : h'.length = 32) => h298_is (n' := n') (h' := h') l0 l1 l2 ls hn' hh' (pb 0) (pb 32) (pb 64) bs
  refine p287_is (p := enK (pk34 (cn34 ((x.drop 0).take 32) ((x.drop 32).take 32) ((x.drop 64).take 32)))) (q := enK (pk34 (bn 2 ((x.drop 32).take 32) ((x.drop 64).take 32) z32))) (S := nI (sl34 ((x.drop 0).take 32) ((x.drop 32).take 32) ((x.drop 64).take 32))) (by rw [nI_len, hx]) (by rw [nI_len, hy]) (by rw [nI_len, ls]) ?_ ?_ ?_ ?_ ?_ ?_ ?_ rfl
  · rw [nI_part, nI_part, nI_part]; exact h297_is l0 l1 l2 (pb 0) (pb 32) (pb 64)
  · rw [nI_part, nI_part, nI_part]
    refine (C l1 l2).trans ?_
    rw [if_pos rfl, if_pos rfl, beq_self_eq_true, if_pos rfl]
  · rw [nI_part, nI_part, nI_part, nI_part, nI_beq]
    intro e
    refine (C m1 l2).trans ?_
    rw [if_neg (fun h => (beq_eq_false_iff_ne.1 e) h.symm)]
  · rw [nI_part, nI_part, nI_part, nI_part, nI_beq]
    intro e
    refine (C l1 m2).trans ?_
    rw [if_pos rfl, if_neg (fun h => (beq_eq_false_iff_ne.1 e) h.symm)]
  · exact h299_is l1 l2 ls (pb 32) (pb 64) bs
  · rw [nI_part]; exact h300_is l0 l1 l2 ls (pb 0) (pb 32) (pb 64) bs
  · rw [nI_part]; exact h300_is l0 l1 l2 z32_len (pb 0) (pb 32) (pb 64) z32_bel
theorem law287 (z0 z1 : List Int) (h0 : ∀ x ∈ z0, (Lit.int .u8 x).wf = true) (h1 : ∀ x ∈ z1, (Lit.int .u8 x).wf = true) (hs0 : z0.length = 96) (hs1 : z1.length = 96) : Ans FT XT 287 (encL [Sh.ar .u8, Sh.ar .u8] (z0, (z1, ()))) [] (.bool true) [] := by
  obtain ⟨x, rfl, hx⟩ := wf8s h0
  obtain ⟨y, rfl, hy⟩ := wf8s h1
  rw [nI_len] at hs0 hs1
  exact E287.2 (nI x, (nI y, ())) true (f287_is hs0 hs1 hx hy)
end Go.Proofs.YtciafmcbccgggaaE
