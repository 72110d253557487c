/- Chapter 19: however bytes are cut. -/
import Derived.Test.YteagngpgghnlmaaEvC19L
namespace Go.Proofs.YteagngpgghnlmaaE
open Go
set_option linter.unusedSimpArgs false
set_option linter.unusedVariables false
set_option maxRecDepth 4000

theorem step19 {P x : List Nat} (hP : bel 256 P) (hx : bel 256 x) (hl : P.length + x.length ≤ 9500) : ∃ l : List Pk,
    h348 (nI x) true (nI (D P).2.1) (((D P).2.2.1 : Nat) : Int) (((D P).1.length : Nat) : Int) (((D P).2.2.2 : Nat) : Int) = some (outW l (D (P ++ x)).2.2.1 (D (P ++ x)).2.1 (D (P ++ x)).2.2.1 (D (P ++ x)).1.length (D (P ++ x)).2.2.2) ∧ (D P).1 ++ l = (D (P ++ x)).1 := by
  have da := D_app _ P x (Nat.lt_succ_self _)
  obtain ⟨d1, d2, d3, d4⟩ := D_is _ P (Nat.lt_succ_self _)
  by_cases he : (D P).2.2.1 = 0
  · have hh : bel 256 (D P).2.1 := by rw [(d1 he).2.2]; exact bel_drop hP
    have hl2 := (d1 he).2.1
    have w : h348 (nI x) true (nI (D P).2.1) ((0 : Nat) : Int) (((D P).1.length : Nat) : Int) (((D P).2.2.2 : Nat) : Int) = _ := h348_0 (c := (D P).1.length) (a := (D P).2.2.2) hx hh (by omega) (by omega)
    rw [if_pos he] at da
    refine ⟨(D ((D P).2.1 ++ x)).1, ?_, by rw [da]⟩
    rw [he, w, da]
    simp only [List.length_append]
  · have s2 := d2 he
    rw [if_neg he] at da
    have w := h348_e (b := x) (h := (D P).2.1) (c := (D P).1.length) (a := (D P).2.2.2) he hx (by rw [s2]; exact fun x hx => by cases hx) (by rw [s2]; simp; omega) (by omega)
    exact ⟨[], by rw [w, da], by rw [da, List.append_nil]⟩
theorem held19 {P : List Nat} (hP : bel 256 P) (hl : P.length ≤ 9500) : bel 256 (D P).2.1 ∧ (D P).2.1.length < 4095 ∧ 0 ≤ wantZ (D P).2.1 (D P).2.2.1 ∧ ((D P).2.2.1 = 0 → stuck (D P).2.1) := by
  obtain ⟨d1, d2, d3, d4⟩ := D_is _ P (Nat.lt_succ_self _)
  by_cases he : (D P).2.2.1 = 0
  · obtain ⟨s1, s2, s3⟩ := d1 he
    have := stuck_want s1
    exact ⟨by rw [s3]; exact bel_drop hP, stuck_lt s1, by rw [he]; omega, fun _ => s1⟩
  · rw [d2 he]
    refine ⟨(fun x hx => by cases hx), by decide, ?_, fun g => absurd g he⟩
    rw [show wantZ [] (D P).2.2.1 = 0 from if_pos he]; exact Int.le_refl _
def h348q (m : Bool) (h : List Int) (e c a : Int) := p348v3 f108 h343 h341 1 m h e c a
theorem R348q : REntOK FT XT 348 (rn348v3 h348q) := ok348v3 f108 h343 h341 E108 E343 E341 fun _ _ _ _ _ _ h => ⟨1, h⟩
theorem h348q_is {h : List Nat} {e c a : Nat} (hh : bel 256 h) (hl : h.length ≤ 15000) (hs : e = 0 → stuck h) : h348q true (nI h) (e : Int) (c : Int) (a : Int) = some (outW [] e h e c a) := by
  unfold h348q p348v3
  rw [Bool.not_true, cond_false]
  by_cases he : e = 0
  · subst he
    have hs := hs rfl
    rw [show (((0 : Nat) : Int) != 0) = false from rfl, cond_false, f108_is (by rw [nI_len]; omega)]
    simp only [nI_len]
    rw [show (h.length == h.length * 1) = true from beq_iff_eq.2 (by omega), decide_eq_true (by omega), decide_eq_true (by omega), Bool.and_self, Bool.and_self, cond_true, decide_eq_true (by omega), cond_true, List.drop_zero, List.take_of_length_le (by rw [nI_len]; exact Nat.le_refl _)]
    rw [L348v3_0.eq_def]; simp only []
    rw [h343_is hh]
    have row : rowsOf shP 0 (List.take (0 * 4) (List.drop 0 ([] : List V))) = some [] := rowsP_at (k := 0) (l := []) rfl (by simp)
    simp only [enN, nI_len]
    rcases hs with s | ⟨s, t⟩
    · rw [s, show (((4 : Nat) : Int) == 4) = true from rfl, cond_true, decide_eq_true (by simp), cond_true, row]; rfl
    · rw [s, show (((0 : Nat) : Int) == 4) = false from rfl, cond_false, show (((0 : Nat) : Int) != 0) = false from rfl, cond_false, cond_false, decide_eq_true (by omega), cond_true, decide_eq_true (by simp), cond_true, row]; rfl
  · rw [bne_iff_ne.2 (by omega), cond_true]; rfl
theorem L336_0_is {N : Nat} {q : List Int → Nat → Bool → List Int → Int → Int → Int → Bool → List Int → Int → Int → Int → List V → Option Bool} {W : List Int} {v13 : Bool} {v14 : List Int} {v15 v16 v17 : Int} : ∀ (ps pre : List (List Nat)) (P : List Nat) (fuel : Nat), ps.length < fuel → (pre ++ ps).length ≤ 100 → P.length + ps.flatten.length ≤ 9500 → bel 256 P → bel 256 ps.flatten →
    L336_0 f347 h354 h348 h349 h352 h348q h351 h350 h302 N q fuel W (D P).1.length (pI (pre ++ ps)) (((pre ++ ps).length : Nat) : Int) ((pre.length : Nat) : Int) true (nI (D P).2.1) (((D P).2.2.1 : Nat) : Int) (((D P).1.length : Nat) : Int) (((D P).2.2.2 : Nat) : Int) v13 v14 v15 v16 v17 (flat shP (kI (D P).1))
      = q W (D (P ++ ps.flatten)).1.length true (nI (D (P ++ ps.flatten)).2.1) (((D (P ++ ps.flatten)).2.2.1 : Nat) : Int) (((D (P ++ ps.flatten)).1.length : Nat) : Int) (((D (P ++ ps.flatten)).2.2.2 : Nat) : Int) v13 v14 v15 v16 v17 (flat shP (kI (D (P ++ ps.flatten)).1))
  | [], pre, P, fuel + 1, _, _, _, _, _ => by
    rw [L336_0.eq_def]; simp only []
    rw [any_end, cond_false, List.flatten_nil, List.append_nil]
  | x :: ps, pre, P, fuel + 1, hf, hp, hs, hP, hb => by
    have hp2 : pre.length + ps.length + 1 ≤ 100 := by simpa [Nat.add_assoc] using hp
    obtain ⟨hx, hr⟩ := bel_flat hb
    rw [List.flatten_cons, List.length_append] at hs
    have hPx : bel 256 (P ++ x) := bel_app hP hx
    have ih := L336_0_is (N := N) (q := q) (W := W) (v13 := v13) (v14 := v14) (v15 := v15) (v16 := v16) (v17 := v17) ps (pre ++ [x]) (P ++ x) fuel (by simpa using hf) (by rw [← any_app]; exact hp) (by rw [List.length_append]; omega) hPx hr
    rw [← any_app pre ps x] at ih
    rw [List.flatten_cons, ← List.append_assoc]
    obtain ⟨l, w, wl⟩ := step19 hP hx (by omega)
    obtain ⟨b1, b2, b3, _⟩ := held19 hPx (by rw [List.length_append]; omega)
    have k2 := h352_is (h := (D (P ++ x)).2.1) (D (P ++ x)).2.2.1 (D (P ++ x)).1.length (D (P ++ x)).2.2.2 b1 (by omega)
    have hll : (D P).1.length + l.length = (D (P ++ x)).1.length := by rw [← wl, List.length_append]
    obtain ⟨_, _, d3, d4⟩ := D_is _ (P ++ x) (Nat.lt_succ_self _)
    have hlx : (P ++ x).length = P.length + x.length := List.length_append
    rw [L336_0.eq_def]; simp only []
    rw [any_lt, cond_true, pI_at]
    simp only [w, outW, stI]
    have kl : List.length (α := PkI) (kI l) = l.length := kI_len l
    rw [flatP_len, kI_len, kl, hll, show ((D P).1.length * 4 == (D P).1.length * 4) = true from beq_self_eq_true _, decide_eq_true (by omega), decide_eq_true (by omega), Bool.and_self, Bool.and_self, cond_true, ← flatP_app, ← kI_app, wl]
    simp only [h349_is, k2, stI]
    rw [decide_eq_false (by omega), cond_false, decide_eq_false (by omega), cond_false, any_inc pre x (by omega)]
    exact ih
theorem L336_1_is {N : Nat} {q : Nat → Nat → Bool → List Int → Int → Int → Int → Bool → List Int → Int → Int → Int → List V → List V → Option Bool} {v37 : Nat} {v41 : Bool} {v42 : List Int} {v43 v44 v45 : Int} {v51 : List V} : ∀ (R P : List Nat) (fuel : Nat), R.length < fuel → P.length + R.length ≤ 9500 → bel 256 P → bel 256 R →
    L336_1 f347 h354 h348 h349 h352 h348q h351 h350 h302 N q fuel (nI (P ++ R)) v37 (D P).1.length (((P ++ R).length : Nat) : Int) ((P.length : Nat) : Int) v41 v42 v43 v44 v45 true (nI (D P).2.1) (((D P).2.2.1 : Nat) : Int) (((D P).1.length : Nat) : Int) (((D P).2.2.2 : Nat) : Int) v51 (flat shP (kI (D P).1))
      = q v37 (D (P ++ R)).1.length v41 v42 v43 v44 v45 true (nI (D (P ++ R)).2.1) (((D (P ++ R)).2.2.1 : Nat) : Int) (((D (P ++ R)).1.length : Nat) : Int) (((D (P ++ R)).2.2.2 : Nat) : Int) v51 (flat shP (kI (D (P ++ R)).1))
  | [], P, fuel + 1, _, _, _, _ => by
    rw [L336_1.eq_def]; simp only []
    rw [any_end, cond_false, List.append_nil]
  | y :: R, P, fuel + 1, hf, hs, hP, hR => by
    rw [List.length_cons] at hs
    have hx : bel 256 [y] := fun z hz => hR z (by simp at hz; simp [hz])
    have hPx : bel 256 (P ++ [y]) := bel_app hP hx
    have hlx : (P ++ [y]).length = P.length + 1 := by simp
    have ih := L336_1_is (N := N) (q := q) (v37 := v37) (v41 := v41) (v42 := v42) (v43 := v43) (v44 := v44) (v45 := v45) (v51 := v51) R (P ++ [y]) fuel (by simpa using hf) (by omega) hPx (fun z hz => hR z (by simp [hz]))
    rw [← any_app P R y] at ih
    obtain ⟨l, w, wl⟩ := step19 hP hx (by simp; omega)
    have hll : (D P).1.length + l.length = (D (P ++ [y])).1.length := by rw [← wl, List.length_append]
    obtain ⟨_, _, d3, d4⟩ := D_is _ (P ++ [y]) (Nat.lt_succ_self _)
    have e1 := any_inc P y (by omega)
    have hW : (P ++ y :: R).length = P.length + (R.length + 1) := by simp
    have et : List.take ((P ++ [y]).length - P.length) (List.drop P.length (nI (P ++ y :: R))) = nI [y] := by
      rw [hlx, Nat.add_sub_cancel_left, nI_drop, List.drop_left]; rfl
    rw [L336_1.eq_def]; simp only []
    rw [any_lt, cond_true, e1]
    simp only [nI_len, Int.toNat_natCast, et]
    rw [decide_eq_true (show (0 : Int) ≤ (((P ++ [y]).length : Nat) : Int) by omega), decide_eq_true (show (((P ++ [y]).length : Nat) : Int) ≤ (((P ++ y :: R).length : Nat) : Int) by omega), decide_eq_true (show (0 : Int) ≤ ((P.length : Nat) : Int) by omega), decide_eq_true (show ((P.length : Nat) : Int) ≤ (((P ++ [y]).length : Nat) : Int) by omega), Bool.and_self, cond_true, cond_true]
    simp only [w, outW, stI]
    have kl : List.length (α := PkI) (kI l) = l.length := kI_len l
    rw [flatP_len, kI_len, kl, hll, show ((D P).1.length * 4 == (D P).1.length * 4) = true from beq_self_eq_true _, decide_eq_true (by omega), decide_eq_true (by omega), Bool.and_self, Bool.and_self, cond_true, ← flatP_app, ← kI_app, wl]
    exact ih
theorem kI_at' (pre t : List Pk) (p : Pk) : geti (kI (pre ++ p :: t)) ((pre.length : Nat) : Int) = some (enK p) := by
  rw [geti_nat, kI, List.getElem?_map, List.getElem?_append_right (Nat.le_refl _), Nat.sub_self]; rfl
theorem L336_2_is {N : Nat} : ∀ (t pl : List Pk) (fuel : Nat), t.length < fuel → (∀ p ∈ t, gK p) → (pl ++ t).length ≤ 100000 →
    L336_2 f347 h354 h348 h349 h352 h348q h351 h350 h302 N (some true) fuel (kI (pl ++ t)) (kI (pl ++ t)) (((pl ++ t).length : Nat) : Int) ((pl.length : Nat) : Int) = some true
  | [], pl, fuel + 1, _, _, _ => by
    rw [L336_2.eq_def]; simp only []
    rw [any_end, cond_false]
  | p :: t, pl, fuel + 1, hf, hg, hn => by
    have hn2 : pl.length + t.length + 1 ≤ 100000 := by simpa [Nat.add_assoc] using hn
    have ih := L336_2_is (N := N) t (pl ++ [p]) fuel (by simpa using hf) (fun z hz => hg z (by simp [hz])) (by rw [← any_app]; exact hn)
    rw [← any_app pl t p] at ih
    have k1 := kI_at' pl t p
    have k4 := h302_is (hg p (by simp)) (hg p (by simp))
    rw [beq_self_eq_true] at k4
    rw [L336_2.eq_def]; simp only []
    rw [any_lt, cond_true, k1]
    generalize kI (pl ++ p :: t) = all at *
    obtain ⟨m, id, at', d⟩ := p
    simp only [enK] at k4
    simp only [enK, k4, Bool.not_true, cond_false]
    rw [any_inc pl _ (by omega)]
    exact ih
def f336 (b t : List Int) := p336 f347 h354 h348 h349 h352 h348q h351 h350 h302 20000 b t
theorem E336 : EntOK FT XT 336 (en336 f336) := ok336 f347 h354 h348 h349 h352 h348q h351 h350 h302 E347 E354 E302 R348 R349 R352 R348q R351 R350 fun _ _ _ h => ⟨20000, h⟩
theorem p336_is {M : Nat} (hM : 10000 < M) {b t : List Nat} (hb : bel 256 b) (ht : bel 65536 t) : p336 f347 h354 h348 h349 h352 h348q h351 h350 h302 M (nI b) (nI t) = some true := by
  unfold p336
  rw [nI_len]
  by_cases h : 3000 < b.length
  · rw [decide_eq_true (by omega), cond_true]; rfl
  rw [decide_eq_false (by omega), cond_false]
  obtain ⟨ps, p1, p2, p3⟩ := h354_is (b := b) (t := t) (by omega) ht
  rw [p1]
  simp only [pI_len]
  refine (L336_0_is (N := M) ps [] [] M (by omega) (by simp; omega) (by rw [p2]; simp; omega) (fun x hx => by cases hx) (by rw [p2]; exact hb)).trans ?_
  rw [p2, List.nil_append, nI_len]
  refine (L336_1_is (N := M) b [] M (by omega) (by simp; omega) (fun x hx => by cases hx) hb).trans ?_
  rw [List.nil_append]
  obtain ⟨b1, b2, b3, b4⟩ := held19 hb (by omega)
  obtain ⟨_, _, d3, d4⟩ := D_is _ b (Nat.lt_succ_self _)
  have hg := D_good _ b (Nat.lt_succ_self _) hb
  generalize D b = X at *
  obtain ⟨xl, xh, xe, xt⟩ := X
  simp only [] at *
  have w := h348q_is (c := xl.length) (a := xt) b1 (by omega) b4
  have row := rowsP_at (k := xl.length) (l := kI xl) (kI_len _).symm (by rw [kI_len]; omega)
  have fl : (flat shP (kI xl)).length = xl.length * 4 := by rw [flatP_len, kI_len]
  simp only [w, outW, stI, bne_self_eq_false, cond_false, h351_is, h350_is, h349_is, fl]
  rw [decide_eq_true (by omega), cond_true, row]
  simp only [cond_true, f347]
  exact L336_2_is (N := M) xl [] M (by omega) hg (by simp; omega)
theorem f336_is {b t : List Nat} (hb : bel 256 b) (ht : bel 65536 t) : f336 (nI b) (nI t) = some true := p336_is (by decide) hb ht
theorem law336 (z0 z1 : List Int) (h0 : okD (Sh.sl (Sh.int .u8)) z0) (h1 : okD (Sh.sl (Sh.int .u16)) z1) : Ans FT XT 336 (encL [Sh.sl (Sh.int .u8), Sh.sl (Sh.int .u16)] (z0, (z1, ()))) [] (.bool true) [] := by
  obtain ⟨a, rfl, ha⟩ := wf8s h0.2
  obtain ⟨t, rfl, ht⟩ := wf16s h1.2
  exact E336.2 (nI a, (nI t, ())) true (f336_is ha ht)
end Go.Proofs.YteagngpgghnlmaaE
