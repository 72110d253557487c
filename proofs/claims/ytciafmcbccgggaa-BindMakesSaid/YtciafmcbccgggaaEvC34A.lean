/- Chapter 34: what asks for a binding; a packet. -/
import Derived.Test.YtciafmcbccgggaaEvC34
namespace Go.Proofs.YtciafmcbccgggaaE
open Go
set_option linter.unusedSimpArgs false
set_option linter.unusedVariables false
set_option maxRecDepth 4000

/-! ### asking -/
abbrev pa34 (n : List Nat) : Pk := (true, (2, ([(4, bd17 (2 :: n))], [])))
theorem gA34 {n : List Nat} (h : n.length = 32) (hb : bel 256 n) : gK (pa34 n) := by
  refine ⟨(show (2 : Nat) < 65536 by decide), fun a ha => ?_, (show (1 : Nat) ≤ 12 by decide), fun y (hy : y ∈ ([] : List Nat)) => (List.not_mem_nil hy).elim, (show (0 : Nat) ≤ 5000 by decide)⟩
  have e := List.mem_singleton.1 ha
  subst e
  refine ⟨(show (4 : Nat) < 256 by decide), fun y hy => ?_, ?_⟩
  · unfold bd17 at hy
    rcases List.mem_cons.1 hy with rfl | hy
    · decide
    · rcases List.mem_cons.1 hy with rfl | hy
      · decide
      · rcases List.mem_cons.1 hy with rfl | hy
        · decide
        · rcases List.mem_cons.1 hy with rfl | hy
          · decide
          · exact hb y hy
  · show (bd17 (2 :: n)).length ≤ 5000
    unfold bd17; rw [List.length_cons, List.length_cons, List.length_cons, List.length_cons, h]; decide
def h305 (n : List Int) := p305 h149 h316 0 n
theorem E305 : EntOK FT XT 305 (en305 h305) := ok305 h149 h316 E149 E316 fun _ _ h => ⟨0, h⟩
theorem h305_is {n : List Nat} (h : n.length = 32) : h305 (nI n) = some (enK (pa34 n)) := by
  have l : (nI n).length = 32 := by rw [nI_len, h]
  have e : ([(2 : Int)] ++ nI n) ++ List.drop (1 + (nI n).length) [(2 : Int), 0, 0, 0, 0, 0, 0, 0, 0, 0, 0, 0, 0, 0, 0, 0, 0, 0, 0, 0, 0, 0, 0, 0, 0, 0, 0, 0, 0, 0, 0, 0, 0] = nI (2 :: n) := by
    rw [List.drop_of_length_le (by rw [l]; decide), List.append_nil]; rfl
  unfold h305 p305
  rw [tk l, e, h149_is (by rw [List.length_cons, h])]
  simp only [l]
  rw [h316_is (show ([((4 : Int), nI (bd17 (2 :: n)))] : List (Int × List Int)).length ≤ 80000 from (show (1 : Nat) ≤ 80000 by decide))]
  rfl
theorem chkA34 {n : List Nat} (h : n.length = 32) : check17 4 (bd17 (2 :: n)) = 0 := by
  have e : (bd17 (2 :: n)).length = 36 := by unfold bd17; rw [List.length_cons, List.length_cons, List.length_cons, List.length_cons, h]
  unfold check17
  rw [if_neg (by decide), if_neg (by rw [e]; decide), if_neg (by rw [e]; decide), if_neg (by decide), if_pos ⟨rfl, (show 1 ≤ 2 by decide), (show 2 ≤ 3 by decide)⟩]
theorem checkA34 {n : List Nat} (h : n.length = 32) : check18 (pa34 n) = 0 := by
  unfold check18
  rw [if_neg (show ¬ true = false by decide), if_neg (show ¬ (2 < 1 ∨ 9 < 2) by decide), if_neg (show ¬ ((pa34 n).2.2.1.length < (want18 (pa34 n).2.1).2.1 ∨ (want18 (pa34 n).2.1).2.2 < (pa34 n).2.2.1.length ∨ ((pa34 n).2.2.1.any fun a => a.1 != (want18 (pa34 n).2.1).1) = true) from (show ¬ (1 < 1 ∨ 1 < 1 ∨ (false || false) = true) by decide))]
  show (if check17 4 (bd17 (2 :: n)) = 0 then 0 else check17 4 (bd17 (2 :: n))) = 0
  rw [if_pos (chkA34 h)]
theorem h318_ask {n : List Nat} (h : n.length = 32) (hb : bel 256 n) : h318 (enK (pa34 n)) 2 = some (((4 : Int), nI (bd17 (2 :: n))), 0) := by
  have e : h323 (enK (pa34 n)) = some 0 := by rw [h323_is (gA34 h hb), checkA34 h]; rfl
  unfold h318 p318
  rw [show ((enK (pa34 n)).1, ((enK (pa34 n)).2.1, ((enK (pa34 n)).2.2.1, (enK (pa34 n)).2.2.2))) = enK (pa34 n) from rfl, e]
  rfl
theorem h155_34 {n : List Nat} (h : n.length = 32) (hb : bel 256 n) : h155 ((4 : Int), nI (bd17 (2 :: n))) = some (nI (2 :: n), 0) := by
  have g := (gA34 h hb).2.1 (4, bd17 (2 :: n)) (List.mem_singleton.2 rfl)
  obtain ⟨q, e, hq, hq2⟩ := h155_is (id := 4) g.2.1
  have t : to17 4 4 (bd17 (2 :: n)) = 0 := by unfold to17; rw [if_pos rfl]; exact chkA34 h
  obtain ⟨h3, _⟩ := hq2 t
  have h4 : q = 2 :: n := by simpa [bd17] using h3
  subst h4
  rw [t] at e
  exact e
def h312 (p : PkI) := p312 h318 h155 0 p
theorem E312 : EntOK FT XT 312 (en312 h312) := ok312 h318 h155 E318 E155 fun _ _ h => ⟨0, h⟩
theorem p312_is {c318 : D318} {c155 : D155} {p : PkI} {a : Int × List Int} {n : List Nat} (F1 : c318 p 2 = some (a, 0)) (F2 : c155 a = some (nI (2 :: n), 0)) (hn : n.length = 32) : p312 c318 c155 0 p = some (nI n, 0) := by
  have l1 : (nI (2 :: n)).length = 33 := by rw [nI_len, List.length_cons, hn]
  have l2 : (nI n).length = 32 := by rw [nI_len, hn]
  have e1 : List.take 32 (List.drop 1 (nI (2 :: n))) = nI n := by rw [nI_drop, nI_take, List.drop_succ_cons, List.drop_zero, ← hn, List.take_length]
  unfold p312
  rw [show (p.1, (p.2.1, (p.2.2.1, p.2.2.2))) = p from rfl, F1]
  simp only []
  rw [show (a.1, a.2) = a from rfl, F2]
  simp only []
  rw [fill (l1.trans (by decide)), e1, fill (l2.trans (by decide)), tk l2, show (nI (2 :: n))[0]? = some 2 from rfl]
  simp only [l1, l2, Nat.le_refl, decide_true, cond_true, cond_false, Nat.reduceLeDiff, Nat.reduceAdd, beq_self_eq_true, bne_self_eq_false, Bool.and_self, Bool.not_true, Bool.not_false]
  rfl
theorem h312_is {n : List Nat} (h : n.length = 32) (hb : bel 256 n) : h312 (enK (pa34 n)) = some (nI n, 0) := p312_is (h318_ask h hb) (h155_34 h hb) h
/-! ### alive -/
def one34 (k : Nat) : List Nat := k :: List.replicate 31 0
theorem one34_len (k : Nat) : (one34 k).length = 32 := by unfold one34; rw [List.length_cons, List.length_replicate]
theorem one34_bel {k : Nat} (h : k < 256) : bel 256 (one34 k) := by
  intro x hx
  rcases List.mem_cons.1 hx with rfl | hx
  · exact h
  · exact bel_rep (by decide) x hx
theorem p301_is {c297 : D297} {c305 : D305} {c312 : D312} {c298 : D298} {p q : PkI} {x : Int × List Int} (F1 : c297 (nI (one34 1)) (nI (one34 2)) (nI (one34 3)) = some p) (F2 : c305 (nI (one34 4)) = some q) (F3 : c312 q = some (nI (one34 4), 0)) (F4 : c298 p (nI (one34 1)) (nI (one34 2)) (nI (one34 3)) = some 0) (F5 : c298 p (nI (one34 1)) (nI (one34 5)) (nI (one34 3)) = some 10) (hp : p.2.2.1 = [x]) : p301 c297 c305 c312 c298 0 = some true := by
  have l : (nI (one34 4)).length = 32 := by rw [nI_len, one34_len]
  unfold p301
  rw [show ([(1 : Int), 0, 0, 0, 0, 0, 0, 0, 0, 0, 0, 0, 0, 0, 0, 0, 0, 0, 0, 0, 0, 0, 0, 0, 0, 0, 0, 0, 0, 0, 0, 0] : List Int) = nI (one34 1) from rfl, show ([(2 : Int), 0, 0, 0, 0, 0, 0, 0, 0, 0, 0, 0, 0, 0, 0, 0, 0, 0, 0, 0, 0, 0, 0, 0, 0, 0, 0, 0, 0, 0, 0, 0] : List Int) = nI (one34 2) from rfl, show ([(3 : Int), 0, 0, 0, 0, 0, 0, 0, 0, 0, 0, 0, 0, 0, 0, 0, 0, 0, 0, 0, 0, 0, 0, 0, 0, 0, 0, 0, 0, 0, 0, 0] : List Int) = nI (one34 3) from rfl, show ([(4 : Int), 0, 0, 0, 0, 0, 0, 0, 0, 0, 0, 0, 0, 0, 0, 0, 0, 0, 0, 0, 0, 0, 0, 0, 0, 0, 0, 0, 0, 0, 0, 0] : List Int) = nI (one34 4) from rfl, show ([(5 : Int), 0, 0, 0, 0, 0, 0, 0, 0, 0, 0, 0, 0, 0, 0, 0, 0, 0, 0, 0, 0, 0, 0, 0, 0, 0, 0, 0, 0, 0, 0, 0] : List Int) = nI (one34 5) from rfl, F1, F2]
  simp only []
  rw [show (q.1, (q.2.1, (q.2.2.1, q.2.2.2))) = q from rfl, F3]
  simp only []
  rw [show (p.1, (p.2.1, (p.2.2.1, p.2.2.2))) = p from rfl, F4]
  simp only []
  rw [F5]
  simp only []
  rw [fill (l.trans (by decide)), tk l, hp]
  simp only [l, Nat.le_refl, decide_true, cond_true, cond_false, Nat.reduceLeDiff, Nat.reduceAdd, beq_self_eq_true, bne_self_eq_false, Bool.and_self, Bool.not_true, Bool.not_false]
  rfl
def f301 : Option Bool := some true
theorem al34 : p301 h297 h305 h312 h298 0 = some true := by
  have b (k : Nat) (h : k < 256) := one34_bel h
  refine p301_is (x := (3, nI (bd17 (cn34 (one34 1) (one34 2) (one34 3))))) (h297_is (one34_len 1) (one34_len 2) (one34_len 3) (b 1 (by decide)) (b 2 (by decide)) (b 3 (by decide))) (h305_is (one34_len 4)) (h312_is (one34_len 4) (b 4 (by decide))) ?_ ?_ rfl
  · refine (h298_is (one34_len 1) (one34_len 2) (one34_len 3) (sl34_len _ _ _) (one34_len 2) (one34_len 3) (b 1 (by decide)) (b 2 (by decide)) (b 3 (by decide)) (sl34_bel _ _ _)).trans ?_
    rw [if_pos rfl, if_pos rfl, beq_self_eq_true, if_pos rfl]
  · refine (h298_is (one34_len 1) (one34_len 2) (one34_len 3) (sl34_len _ _ _) (one34_len 5) (one34_len 3) (b 1 (by decide)) (b 2 (by decide)) (b 3 (by decide)) (sl34_bel _ _ _)).trans ?_
    rw [if_neg (by decide)]
theorem E301 : EntOK FT XT 301 (en301 f301) := ok301 h297 h305 h312 h298 E297 E305 E312 E298 fun r h => ⟨0, by rw [← h]; exact al34⟩
end Go.Proofs.YtciafmcbccgggaaE
