/- Chapter 34: bound packets, the program's functions. -/
import Derived.Test.YtciafmcbccgggaaEvzC18L
namespace Go.Proofs.YtciafmcbccgggaaE
open Go
set_option linter.unusedSimpArgs false
set_option linter.unusedVariables false
set_option maxRecDepth 4000

theorem fill {r z : List Int} (h : r.length = z.length) : ([] ++ r) ++ List.drop (0 + r.length) z = r := by
  rw [List.nil_append, Nat.zero_add, h, List.drop_length, List.append_nil]
theorem tk {r : List Int} {n : Nat} (h : r.length = n) : List.take n (List.drop 0 r) = r := by
  rw [List.drop_zero, ← h, List.take_length]
def bn (m : Nat) (n h s : List Nat) : List Nat := m :: (n ++ (h ++ s))
theorem bn_len {m : Nat} {n h s : List Nat} (hn : n.length = 32) (hh : h.length = 32) (hs : s.length = 32) : (bn m n h s).length = 97 := by
  unfold bn; rw [List.length_cons, List.length_append, List.length_append]; omega
theorem bn_bel {m : Nat} {n h s : List Nat} (hm : m < 256) (hn : bel 256 n) (hh : bel 256 h) (hs : bel 256 s) : bel 256 (bn m n h s) := by
  intro x hx
  rcases List.mem_cons.1 hx with rfl | hx
  · exact hm
  · exact bel_app hn (bel_app hh hs) x hx
theorem z32_len : z32.length = 32 := List.length_replicate ..
abbrev pk34 (x : List Nat) : Pk := (true, (4, ([(3, bd17 x)], [])))
theorem gK34 {x : List Nat} (h : x.length = 97) (hb : bel 256 x) : gK (pk34 x) := by
  refine ⟨(show (4 : Nat) < 65536 by decide), fun a ha => ?_, (show (1 : Nat) ≤ 12 by decide), fun y (hy : y ∈ ([] : List Nat)) => (List.not_mem_nil hy).elim, (show (0 : Nat) ≤ 5000 by decide)⟩
  have e := List.mem_singleton.1 ha
  subst e
  refine ⟨(show (3 : Nat) < 256 by decide), fun y hy => ?_, ?_⟩
  · unfold bd17 at hy
    rcases List.mem_cons.1 hy with rfl | hy
    · decide
    · rcases List.mem_cons.1 hy with rfl | hy
      · decide
      · rcases List.mem_cons.1 hy with rfl | hy
        · decide
        · exact hb y hy
  · show (bd17 x).length ≤ 5000
    unfold bd17; rw [List.length_cons, List.length_cons, List.length_cons, h]; decide
/-! ### of -/
def h310 (x : List Int) := p310 h148 h316 0 x
theorem E310 : EntOK FT XT 310 (en310 h310) := ok310 h148 h316 E148 E316 fun _ _ h => ⟨0, h⟩
theorem h310_is {x : List Nat} (h : x.length = 97) : h310 (nI x) = some (enK (pk34 x)) := by
  unfold h310 p310
  rw [decide_eq_true (by rw [nI_len]; omega), cond_true, tk (by rw [nI_len, h]), h148_is h]
  simp only []
  rw [h316_is (show ([((3 : Int), nI (bd17 x))] : List (Int × List Int)).length ≤ 80000 from (show (1 : Nat) ≤ 80000 by decide))]
  rfl
/-! ### sealed -/
def zer (x : List Nat) : List Nat := x.take 65 ++ z32
theorem zer_len {x : List Nat} (h : x.length = 97) : (zer x).length = 97 := by
  unfold zer; rw [List.length_append, List.length_take, z32_len]; omega
theorem zer_bel {x : List Nat} (h : bel 256 x) : bel 256 (zer x) := bel_app (bel_take h) z32_bel
def zi (x : List Int) : List Int := ((List.take 65 x) ++ [(0 : Int), 0, 0, 0, 0, 0, 0, 0, 0, 0, 0, 0, 0, 0, 0, 0, 0, 0, 0, 0, 0, 0, 0, 0, 0, 0, 0, 0, 0, 0, 0, 0]) ++ (List.drop 97 x)
theorem zi_len {x : List Int} (h : x.length = 97) : (zi x).length = 97 := by
  unfold zi; rw [List.length_append, List.length_append, List.length_take, List.length_drop, h]; rfl
theorem zi_is {x : List Nat} (h : x.length = 97) : zi (nI x) = nI (zer x) := by
  unfold zi
  rw [nI_take, List.drop_of_length_le (by rw [nI_len]; omega), List.append_nil]
  show nI (x.take 65) ++ nI z32 = _
  rw [nI_app]; rfl
theorem p309_is {c310 : D310} {c317 : D317} {c293 : D293} {c295 : D295} {x u r3 S : List Int} {r1 : PkI} {r2 : List Int × Int} (hx : x.length = 97) (hu : u.length = 32) (F1 : c310 (zi x) = some r1) (F2 : c317 r1 = some r2) (F3 : c293 u = some r3) (F4 : c295 r3 r2.1 = some S) (hS : S.length = 32) : p309 c310 c317 c293 c295 0 x u = some S := by
  unfold p309
  rw [show ((List.take 65 x) ++ [(0 : Int), 0, 0, 0, 0, 0, 0, 0, 0, 0, 0, 0, 0, 0, 0, 0, 0, 0, 0, 0, 0, 0, 0, 0, 0, 0, 0, 0, 0, 0, 0, 0]) ++ (List.drop 97 x) = zi x from rfl]
  rw [show decide (97 ≤ x.length) = true from decide_eq_true (by omega), cond_true, show decide (97 ≤ (zi x).length) = true from decide_eq_true (by rw [zi_len hx]; exact Nat.le_refl _), cond_true, tk (zi_len hx), F1]
  simp only []
  rw [show (r1.1, (r1.2.1, (r1.2.2.1, r1.2.2.2))) = r1 from rfl, F2]
  simp only []
  rw [decide_eq_true (show 32 ≤ u.length by omega), cond_true, tk hu, F3]
  simp only []
  rw [F4]
  simp only []
  rw [show (S.length == 32) = true from beq_iff_eq.2 hS, cond_true, decide_eq_true (show 0 + S.length ≤ 32 by omega), cond_true, fill (by rw [hS]; rfl), decide_eq_true (show 32 ≤ S.length by omega), cond_true, tk hS]
def sealed (x u : List Nat) : List Nat := hm (bnd13 u) (lay18 (pk34 (zer x))).1
theorem sealed_len (x u : List Nat) : (sealed x u).length = 32 := hm_len _ _
theorem sealed_bel (x u : List Nat) : bel 256 (sealed x u) := hm_bel _ _
def h309 (x u : List Int) := p309 h310 h317 h293 h295 0 x u
theorem E309 : EntOK FT XT 309 (en309 h309) := ok309 h310 h317 h293 h295 E310 E317 E293 E295 fun _ _ _ h => ⟨0, h⟩
theorem h309_is {x u : List Nat} (h : x.length = 97) (hb : bel 256 x) (hu : u.length = 32) (hub : bel 256 u) : h309 (nI x) (nI u) = some (nI (sealed x u)) := by
  have hz := zer_len h
  have hg := gK34 hz (zer_bel hb)
  refine p309_is (r1 := enK (pk34 (zer x))) (r2 := enB (lay18 (pk34 (zer x)))) (r3 := nI (bnd13 u)) (by rw [nI_len, h]) (by rw [nI_len, hu]) ?_ (h317_is hg) (h293_is hu hub) ?_ (by rw [nI_len, sealed_len])
  · rw [zi_is h, h310_is hz]
  · exact h295_is (bnd13_len u) (bnd13_bel u) (lay18_bel hg) (Nat.le_trans lay18_len (by decide))
/-! ### taken apart -/
theorem chk34 {x : List Nat} (h : x.length = 97) (h1 : 1 ≤ gt x 0) (h2 : gt x 0 ≤ 2) : check17 3 (bd17 x) = 0 := by
  have e : (bd17 x).length = 100 := by unfold bd17; rw [List.length_cons, List.length_cons, List.length_cons, h]
  unfold check17
  rw [if_neg (by decide), if_neg (by rw [e]; decide), if_neg (by rw [e]; decide), if_neg (by decide), if_pos ⟨rfl, h1, h2⟩]
theorem check34 {x : List Nat} (h : x.length = 97) (h1 : 1 ≤ gt x 0) (h2 : gt x 0 ≤ 2) : check18 (pk34 x) = 0 := by
  have e := chk34 h h1 h2
  unfold check18
  rw [if_neg (show ¬ true = false by decide), if_neg (show ¬ (4 < 1 ∨ 9 < 4) by decide), if_neg (show ¬ ((pk34 x).2.2.1.length < (want18 (pk34 x).2.1).2.1 ∨ (want18 (pk34 x).2.1).2.2 < (pk34 x).2.2.1.length ∨ ((pk34 x).2.2.1.any fun a => a.1 != (want18 (pk34 x).2.1).1) = true) from (show ¬ (1 < 1 ∨ 1 < 1 ∨ (false || false) = true) by decide))]
  show (if check17 3 (bd17 x) = 0 then 0 else check17 3 (bd17 x)) = 0
  rw [if_pos e]
def h318 (p : PkI) (n : Int) := p318 h323 0 p n
theorem E318 : EntOK FT XT 318 (en318 h318) := ok318 h323 E323 fun _ _ _ h => ⟨0, h⟩
theorem h318_is {x : List Nat} (h : x.length = 97) (hb : bel 256 x) (h1 : 1 ≤ gt x 0) (h2 : gt x 0 ≤ 2) : h318 (enK (pk34 x)) 4 = some (((3 : Int), nI (bd17 x)), 0) := by
  have e : h323 (enK (pk34 x)) = some 0 := by rw [h323_is (gK34 h hb), check34 h h1 h2]; rfl
  unfold h318 p318
  rw [show ((enK (pk34 x)).1, ((enK (pk34 x)).2.1, ((enK (pk34 x)).2.2.1, (enK (pk34 x)).2.2.2))) = enK (pk34 x) from rfl, e]
  rfl
theorem h154_34 {x : List Nat} (h : x.length = 97) (hb : bel 256 x) (h1 : 1 ≤ gt x 0) (h2 : gt x 0 ≤ 2) : h154 ((3 : Int), nI (bd17 x)) = some (nI x, 0) := by
  have g := (gK34 h hb).2.1 (3, bd17 x) (List.mem_singleton.2 rfl)
  obtain ⟨q, e, hq, hq2⟩ := h154_is (id := 3) g.2.1
  have t : to17 3 3 (bd17 x) = 0 := by unfold to17; rw [if_pos rfl]; exact chk34 h h1 h2
  obtain ⟨h3, _⟩ := hq2 t
  have h4 : q = x := by simpa [bd17] using h3
  subst h4
  rw [t] at e
  exact e
def h311 (p : PkI) := p311 h318 h154 0 p
theorem E311 : EntOK FT XT 311 (en311 h311) := ok311 h318 h154 E318 E154 fun _ _ h => ⟨0, h⟩
theorem p311_is {c318 : D318} {c154 : D154} {p : PkI} {a : Int × List Int} {x : List Int} (F1 : c318 p 4 = some (a, 0)) (F2 : c154 a = some (x, 0)) (hx : x.length = 97) : p311 c318 c154 0 p = some (x, 0) := by
  unfold p311
  rw [show (p.1, (p.2.1, (p.2.2.1, p.2.2.2))) = p from rfl, F1]
  simp only []
  rw [show (a.1, a.2) = a from rfl, F2]
  simp only [bne_self_eq_false, cond_false]
  rw [show (x.length == 97) = true from beq_iff_eq.2 hx, cond_true, decide_eq_true (show 0 + x.length ≤ 97 by omega), cond_true, fill (by rw [hx]; rfl), decide_eq_true (show 97 ≤ x.length by omega), cond_true, tk hx]
theorem h311_is {x : List Nat} (h : x.length = 97) (hb : bel 256 x) (h1 : 1 ≤ gt x 0) (h2 : gt x 0 ≤ 2) : h311 (enK (pk34 x)) = some (nI x, 0) :=
  p311_is (h318_is h hb h1 h2) (h154_34 h hb h1 h2) (by rw [nI_len, h])
/-! ### made -/
theorem eqn1 {n : List Nat} (hn : n.length = 32) : ([(2 : Int)] ++ nI n) ++ List.drop (1 + (nI n).length) ([(2 : Int)] ++ zz 96) = nI (bn 2 n z32 z32) := by
  rw [nI_len, hn]
  show (2 : Int) :: (nI n ++ (nI z32 ++ nI z32)) = _
  rw [nI_app, nI_app]; rfl
theorem bn_33 {m : Nat} {n h s : List Nat} (hn : n.length = 32) : (bn m n h s).take 33 = m :: n := by
  unfold bn; rw [List.take_succ_cons, List.take_left' hn]
theorem bn_d1 (m : Nat) (n h s : List Nat) : (bn m n h s).drop 1 = n ++ (h ++ s) := rfl
theorem bn_d33 {m : Nat} {n h s : List Nat} (hn : n.length = 32) : (bn m n h s).drop 33 = h ++ s := by
  unfold bn; rw [List.drop_succ_cons, List.drop_left' hn]
theorem bn_d65 {m : Nat} {n h s : List Nat} (hn : n.length = 32) (hh : h.length = 32) : (bn m n h s).drop 65 = s := by
  rw [show 65 = 33 + 32 from rfl, ← List.drop_drop, bn_d33 hn, List.drop_left' hh]
theorem bn_65 {m : Nat} {n h s : List Nat} (hn : n.length = 32) (hh : h.length = 32) : (bn m n h s).take 65 = m :: (n ++ h) := by
  unfold bn; rw [List.take_succ_cons, ← List.append_assoc, List.take_left' (by rw [List.length_append]; omega)]
theorem eqn2 {n h : List Nat} (hn : n.length = 32) (hh : h.length = 32) : (List.take 33 (nI (bn 2 n z32 z32)) ++ nI h) ++ List.drop (33 + (nI h).length) (nI (bn 2 n z32 z32)) = nI (bn 2 n h z32) := by
  rw [nI_len, hh, nI_take, nI_drop, bn_33 hn, bn_d65 hn z32_len, nI_app, nI_app]
  congr 1
  unfold bn; rw [List.cons_append, List.cons_append, List.append_assoc]
theorem eqn3 {n h s : List Nat} (hn : n.length = 32) (hh : h.length = 32) (hs : s.length = 32) : (List.take 65 (nI (bn 2 n h z32)) ++ nI s) ++ List.drop (65 + (nI s).length) (nI (bn 2 n h z32)) = nI (bn 2 n h s) := by
  rw [nI_len, hs, nI_take, nI_drop, bn_65 hn hh, List.drop_of_length_le (by rw [bn_len hn hh z32_len]; decide), show nI [] = [] from rfl, List.append_nil, nI_app]
  congr 1
  unfold bn; rw [List.cons_append, List.append_assoc]
theorem zer_bn {m : Nat} {n h s : List Nat} (hn : n.length = 32) (hh : h.length = 32) : zer (bn m n h s) = bn m n h z32 := by
  unfold zer; rw [bn_65 hn hh]
  unfold bn; rw [List.cons_append, List.append_assoc]
theorem sealed_bn {m : Nat} {n h s t u : List Nat} (hn : n.length = 32) (hh : h.length = 32) : sealed (bn m n h s) u = sealed (bn m n h t) u := by
  unfold sealed; rw [zer_bn hn hh, zer_bn hn hh]
def sl34 (u n h : List Nat) : List Nat := sealed (bn 2 n h z32) u
def cn34 (u n h : List Nat) : List Nat := bn 2 n h (sl34 u n h)
def h297 (u n h : List Int) := p297 h309 h310 0 u n h
theorem E297 : EntOK FT XT 297 (en297 h297) := ok297 h309 h310 E309 E310 fun _ _ _ _ h => ⟨0, h⟩
theorem p297_is {c309 : D309} {c310 : D310} {u n h s : List Nat} {p : PkI} (hu : u.length = 32) (hn : n.length = 32) (hh : h.length = 32) (hs : s.length = 32) (F1 : c309 (nI (bn 2 n h z32)) (nI u) = some (nI s)) (F2 : c310 (nI (bn 2 n h s)) = some p) : p297 c309 c310 0 (nI u) (nI n) (nI h) = some p := by
  have l1 : (nI u).length = 32 := by rw [nI_len, hu]
  have l2 : (nI n).length = 32 := by rw [nI_len, hn]
  have l3 : (nI h).length = 32 := by rw [nI_len, hh]
  have l4 : (nI s).length = 32 := by rw [nI_len, hs]
  have l5 : (nI (bn 2 n z32 z32)).length = 97 := by rw [nI_len, bn_len hn z32_len z32_len]
  have l6 : (nI (bn 2 n h z32)).length = 97 := by rw [nI_len, bn_len hn hh z32_len]
  have l7 : (nI (bn 2 n h s)).length = 97 := by rw [nI_len, bn_len hn hh hs]
  unfold p297
  rw [tk l2, tk l3, eqn1 hn, eqn2 hn hh, fill (l6.trans (by decide)), tk l6, tk l1, F1]
  simp only [l1, l2, l3, l5, l6]
  rw [eqn3 hn hh hs, tk l7, F2]
  simp only [l4, l6, l7]
  rfl
theorem sl34_len (u n h : List Nat) : (sl34 u n h).length = 32 := sealed_len _ _
theorem sl34_bel (u n h : List Nat) : bel 256 (sl34 u n h) := sealed_bel _ _
theorem h297_is {u n h : List Nat} (hu : u.length = 32) (hn : n.length = 32) (hh : h.length = 32) (bu : bel 256 u) (b1 : bel 256 n) (b2 : bel 256 h) : h297 (nI u) (nI n) (nI h) = some (enK (pk34 (cn34 u n h))) :=
  p297_is hu hn hh (sl34_len u n h) (h309_is (bn_len hn hh z32_len) (bn_bel (by decide) b1 b2 z32_bel) hu bu) (h310_is (bn_len hn hh (sl34_len u n h)))
/-! ### held against its key -/
def h298 (p : PkI) (u n h : List Int) := p298 h311 h309 h47 0 p u n h
theorem E298 : EntOK FT XT 298 (en298 h298) := ok298 h311 h309 h47 E311 E309 E47 fun _ _ _ _ _ h => ⟨0, h⟩
theorem p298_is {c311 : D311} {c309 : D309} {c47 : D47} {p : PkI} {u n h s S n' h' : List Nat} {b : Bool} (hu : u.length = 32) (hn : n.length = 32) (hh : h.length = 32) (hs : s.length = 32) (hS : S.length = 32) (hn' : n'.length = 32) (hh' : h'.length = 32) (F1 : c311 p = some (nI (bn 2 n h s), 0)) (F2 : c309 (nI (bn 2 n h s)) (nI u) = some (nI S)) (F3 : c47 (nI s) (nI S) = some b) : p298 c311 c309 c47 0 p (nI u) (nI n') (nI h') = some (if n = n' then (if h = h' then (if b = true then 0 else 14) else 14) else 10) := by
  have l1 : (nI u).length = 32 := by rw [nI_len, hu]
  have l2 : (nI n').length = 32 := by rw [nI_len, hn']
  have l3 : (nI h').length = 32 := by rw [nI_len, hh']
  have l4 : (nI S).length = 32 := by rw [nI_len, hS]
  have l5 : (nI (bn 2 n h s)).length = 97 := by rw [nI_len, bn_len hn hh hs]
  have e1 : List.take 32 (List.drop 1 (nI (bn 2 n h s))) = nI n := by rw [nI_drop, nI_take, bn_d1, List.take_left' hn]
  have e2 : List.take 32 (List.drop 33 (nI (bn 2 n h s))) = nI h := by rw [nI_drop, nI_take, bn_d33 hn, List.take_left' hh]
  have e3 : List.take 32 (List.drop 65 (nI (bn 2 n h s))) = nI s := by rw [nI_drop, nI_take, bn_d65 hn hh, ← hs, List.take_length]
  have l6 : (nI n).length = 32 := by rw [nI_len, hn]
  have l7 : (nI h).length = 32 := by rw [nI_len, hh]
  unfold p298
  rw [show (p.1, (p.2.1, (p.2.2.1, p.2.2.2))) = p from rfl, F1]
  simp only []
  rw [fill (l5.trans (by decide)), tk l5, tk l1, tk l2, tk l3, e1, e2, e3, F2]
  simp only [l5]
  rw [fill (l4.trans (by decide)), tk l4, F3, show (nI (bn 2 n h s))[0]? = some 2 from rfl, nI_beq, nI_beq]
  simp only [l1, l2, l3, l4, l6, l7, Nat.le_refl, decide_true, cond_true, cond_false, Nat.reduceLeDiff, Nat.reduceAdd, beq_self_eq_true, bne_self_eq_false, Bool.and_self, Bool.not_true, Bool.not_false]
  by_cases en : n = n'
  · subst en
    rw [if_pos rfl]
    simp only [Nat.le_refl, decide_true, cond_true, cond_false, Nat.reduceLeDiff, Nat.reduceAdd, beq_self_eq_true, bne_self_eq_false, Bool.and_self, Bool.not_true, Bool.not_false]
    by_cases eh : h = h'
    · subst eh
      rw [if_pos rfl]
      simp only [Nat.le_refl, decide_true, cond_true, cond_false, Nat.reduceLeDiff, Nat.reduceAdd, beq_self_eq_true, bne_self_eq_false, Bool.and_self, Bool.not_true, Bool.not_false]
      cases b <;> rfl
    · rw [if_neg eh, show (h == h') = false from beq_eq_false_iff_ne.2 eh]; rfl
  · rw [if_neg en, show (n == n') = false from beq_eq_false_iff_ne.2 en]; rfl
theorem gt_bn (m : Nat) (n h s : List Nat) : gt (bn m n h s) 0 = m := rfl
theorem h298_is {u n h s n' h' : List Nat} (hu : u.length = 32) (hn : n.length = 32) (hh : h.length = 32) (hs : s.length = 32) (hn' : n'.length = 32) (hh' : h'.length = 32) (bu : bel 256 u) (b1 : bel 256 n) (b2 : bel 256 h) (b3 : bel 256 s) : h298 (enK (pk34 (bn 2 n h s))) (nI u) (nI n') (nI h') = some (if n = n' then (if h = h' then (if (s == sl34 u n h) = true then 0 else 14) else 14) else 10) := by
  have hl := bn_len (m := 2) hn hh hs
  have hb := bn_bel (m := 2) (by decide) b1 b2 b3
  refine p298_is hu hn hh hs (sl34_len u n h) hn' hh' (h311_is hl hb (by rw [gt_bn]; decide) (by rw [gt_bn]; decide)) ?_ (h47_is b3 (sl34_bel u n h) (by omega))
  rw [h309_is hl hb hu bu]
  unfold sl34
  rw [sealed_bn (t := z32) hn hh]
end Go.Proofs.YtciafmcbccgggaaE
