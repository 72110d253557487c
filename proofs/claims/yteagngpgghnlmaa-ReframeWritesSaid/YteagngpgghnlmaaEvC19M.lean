/- Chapter 19: pieces against the document. -/
import Derived.Test.YteagngpgghnlmaaEvC19L
namespace Go.Proofs.YteagngpgghnlmaaE
open Go
set_option linter.unusedSimpArgs false
set_option linter.unusedVariables false
set_option maxRecDepth 4000

theorem L357_is {N : Nat} {q : Bool → Int → Bool → Int → Nat → List Int → List V → Option (Bool × Int × (List (Int × (List Int))) × (List Int))} {v4 v6 : Bool} {v5 v7 : Int} {v9 : List Int} : ∀ (t pre : List At) (fuel : Nat), t.length < fuel → (pre ++ t).length ≤ 100000 →
    L357_0 N q fuel (nA (pre ++ t)) (((pre ++ t).length : Nat) : Int) ((pre.length : Nat) : Int) v4 v5 v6 v7 pre.length v9 (flat shA (nA pre)) = q v4 v5 v6 v7 (pre ++ t).length v9 (flat shA (nA (pre ++ t)))
  | [], pre, fuel + 1, _, _ => by rw [L357_0, ltF, cond_false, List.append_nil]
  | a :: t, pre, fuel + 1, hf, hn => by
    have hn2 : pre.length + t.length + 1 ≤ 100000 := by simpa [Nat.add_assoc] using hn
    have ih := L357_is (N := N) (q := q) (v4 := v4) (v5 := v5) (v6 := v6) (v7 := v7) (v9 := v9) t (pre ++ [a]) fuel (by simpa using hf) (by rw [← app1]; exact hn)
    rw [← app1 pre t a, nA_snoc, flat_snoc] at ih
    rw [L357_0, ltT, cond_true, nA_at]
    simp only []
    rw [flatA_len, nA_len, beq_self_eq_true, Bool.true_and, decide_eq_true (by omega), decide_eq_true (by omega), Bool.and_self, cond_true, inc1 pre a (by omega), ← len1 pre a]
    exact ih
def h357 (p : PkI) := p357 20 p
theorem E357 : EntOK FT XT 357 (en357 h357) := ok357 fun _ _ h => ⟨20, h⟩
theorem h357_is {p : Pk} (h : p.2.2.1.length ≤ 12) : h357 (enK p) = some (enK p) := by
  obtain ⟨m, id, l, d⟩ := p
  simp only [] at h
  unfold h357 p357
  simp only [enK, nA_len]
  refine (L357_is (N := 20) l [] 20 (by omega) (by simp; omega)).trans ?_
  rw [List.nil_append]
  have hl : l.length * 2 = (flat shA (nA l)).length := by rw [flatA_len, nA_len]
  have r : rowsOf shA l.length (flat shA (nA l)) = some (nA l) := by
    have := rowsA_of (L := nA l) (by rw [nA_len]; omega)
    rw [nA_len] at this; exact this
  rw [decide_eq_true (by omega), cond_true, hl, List.drop_zero, List.take_length, r]

theorem L355_is {N : Nat} {q : Nat → Int → List V → Option ((List (Bool × Int × (List (Int × (List Int))) × (List Int))) × Int × Int)} (hq : ∀ (acc : List Pk) (z : Int), acc.length ≤ 50000 → q acc.length z (flat shP (kI acc)) = some (kI acc, (z, 0))) : ∀ (k : Nat) (b : List Nat) (w n : Nat) (acc : List Pk), n = acc.length → w ≤ b.length → b.length - w < k → bel 256 b → b.length ≤ 100000 → acc.length + (b.length - w) ≤ 50000 →
    L355_0 h344 h342 N q k (nI b) n (w : Int) (flat shP (kI acc)) = some (kI (acc ++ (D (b.drop w)).1), (((w + (D (b.drop w)).2.2.2 : Nat) : Int), (((D (b.drop w)).2.2.1 : Nat) : Int)))
  | 0, _, _, _, _, _, _, h, _, _, _ => by omega
  | k + 1, b, w, n, acc, hn, hw, hk, hb, hl, ha => by
    have hlen : (b.drop w).length = b.length - w := List.length_drop
    have hbd : bel 256 (b.drop w) := bel_drop hb
    have es : isub .i64 ((b.length : Nat) : Int) ((w : Nat) : Int) = ((b.length : Nat) : Int) - ((w : Nat) : Int) := subz (by omega) (by omega)
    have row := rowsP_at (k := n) (l := kI acc) (by rw [kI_len, hn]) (by rw [kI_len]; omega)
    have fl : (flat shP (kI acc)).length = acc.length * 4 := by rw [flatP_len, kI_len]
    rw [L355_0.eq_def]
    simp only [nI_len, es, fl, Int.toNat_natCast, nI_drop, h344_is hbd]
    by_cases h1 : (len18 (b.drop w)).2 = 4
    · have := len18_4.1 h1
      rw [show D (b.drop w) = ([], b.drop w, 0, 0) from drn_0 h1, decide_eq_false (by omega), cond_false, hn, hq acc _ (by omega), List.append_nil]; rfl
    have h1' : ¬ (b.drop w).length < 4 := fun g => h1 (len18_4.2 g)
    rw [decide_eq_true (by omega), cond_true, decide_eq_true (show (0 : Int) ≤ ((w : Nat) : Int) by omega), decide_eq_true (show ((w : Nat) : Int) ≤ ((b.length : Nat) : Int) by omega), Bool.and_self, cond_true, decide_eq_true (show 0 + n * 4 ≤ acc.length * 4 by omega), row]
    simp only [enN, cond_true]
    by_cases h2 : (len18 (b.drop w)).2 = 0
    · have h5 := len18_5 h2
      rw [h2, show (((0 : Nat) : Int) != 0) = false from rfl, cond_false]
      by_cases h3 : (b.drop w).length < (len18 (b.drop w)).1
      · rw [show D (b.drop w) = ([], b.drop w, 0, 0) from drn_2 h2 h3, decide_eq_true (by omega), cond_true, List.append_nil]; rfl
      have e1 : iadd .i64 ((w : Nat) : Int) (((len18 (b.drop w)).1 : Nat) : Int) = ((w + (len18 (b.drop w)).1 : Nat) : Int) := addn (by omega)
      rw [decide_eq_false (by omega), cond_false, e1, Int.toNat_natCast, decide_eq_true (show (0 : Int) ≤ ((w + (len18 (b.drop w)).1 : Nat) : Int) by omega), decide_eq_true (show ((w + (len18 (b.drop w)).1 : Nat) : Int) ≤ ((b.length : Nat) : Int) by omega), decide_eq_true (show ((w : Nat) : Int) ≤ ((w + (len18 (b.drop w)).1 : Nat) : Int) by omega), Bool.and_self, cond_true, cond_true, Nat.add_sub_cancel_left, nI_take, h342_is (bel_take hbd) (by rw [List.length_take]; omega)]
      simp only [enQ]
      by_cases h4 : (parse18 ((b.drop w).take (len18 (b.drop w)).1)).2 = 0
      · have ih := L355_is (N := N) hq k b (w + (len18 (b.drop w)).1) (n + 1) (acc ++ [(parse18 ((b.drop w).take (len18 (b.drop w)).1)).1]) (by simp [hn]) (by omega) (by omega) hb hl (by simp; omega)
        rw [← List.drop_drop, kI_snoc, flatP_snoc] at ih
        rw [h4, show (((0 : Nat) : Int) != 0) = false from rfl, cond_false, show (acc.length * 4 == n * 4) = true from beq_iff_eq.2 (by omega), decide_eq_true (by omega), decide_eq_true (by omega), Bool.and_self, Bool.and_self, cond_true, if_neg (by omega), e1]
        refine ih.trans ?_
        rw [D_4 h2 h3 h4]
        simp only [List.append_assoc, List.cons_append, List.nil_append, Nat.add_assoc]
      · rw [show D (b.drop w) = _ from drn_3 h2 h3 h4, bne_iff_ne.2 (show (((parse18 ((b.drop w).take (len18 (b.drop w)).1)).2 : Nat) : Int) ≠ 0 by omega), cond_true, List.append_nil]; rfl
    · rw [show D (b.drop w) = _ from drn_1 h1 h2, bne_iff_ne.2 (show (((len18 (b.drop w)).2 : Nat) : Int) ≠ 0 by omega), cond_true, List.append_nil]; rfl
def h355 (b : List Int) := p355 h344 h342 20000 b
theorem E355 : EntOK FT XT 355 (en355 h355) := ok355 h344 h342 E344 E342 fun _ _ h => ⟨20000, h⟩
theorem h355_is {b : List Nat} (hb : bel 256 b) (hl : b.length ≤ 15000) : h355 (nI b) = some (kI (D b).1, ((((D b).2.2.2 : Nat) : Int), (((D b).2.2.1 : Nat) : Int))) := by
  unfold h355 p355
  refine (L355_is (N := 20000) (fun acc z ha => by rw [flatP_len, kI_len, decide_eq_true (by omega), cond_true, rowsP_at (kI_len _).symm (by rw [kI_len]; omega)]) 20000 b 0 0 [] rfl (Nat.zero_le _) (by omega) hb (by omega) (by simp; omega)).trans ?_
  rw [List.drop_zero, List.nil_append, Nat.zero_add]
def h356 (b : List Int) := p356 h344 0 b
theorem E356 : EntOK FT XT 356 (en356 h356) := ok356 h344 E344 fun _ _ h => ⟨0, h⟩
theorem h356_is {h : List Nat} (hh : bel 256 h) (hl : h.length ≤ 100000) : ∃ z, h356 (nI h) = some z ∧ (stuck h → z = wantZ h 0) := by
  unfold h356 p356 wantZ
  rw [nI_len, if_neg (fun g => g rfl)]
  by_cases h4 : h.length < 4
  · rw [decide_eq_true (by omega), cond_true, subz (by omega) (by omega), if_pos (by rw [len18_short h4]; decide)]
    exact ⟨_, rfl, fun _ => rfl⟩
  · rw [decide_eq_false (by omega), cond_false, h344_is hh]
    refine ⟨_, rfl, fun s => ?_⟩
    rcases s with s | ⟨s, t⟩
    · exact absurd (len18_4.1 s) h4
    · have := len18_5 s
      rw [if_neg (fun g => g s)]
      exact subz (by simp only []; omega) (by simp only []; omega)
theorem kI_at (pre t : List Pk) (p : Pk) (n : Nat) (h : n = pre.length) : geti (kI (pre ++ p :: t)) ((n : Nat) : Int) = some (enK p) := by
  rw [geti_nat, kI, List.getElem?_map, h, List.getElem?_append_right (Nat.le_refl _), Nat.sub_self]; rfl
theorem same18 {p : Pk} (g : gK p) : h302 (enK p) (enK p) = some true := by
  have := h302_is g g
  rw [beq_self_eq_true] at this; exact this
theorem L335_1_is {N : Nat} {q : List Int → Int → Int → List (Bool × Int × (List (Int × (List Int))) × (List Int)) → List (List Int) → Int → Int → Bool → List Int → Int → Int → Int → Option Bool} {W : List Int} {n' e' v30 v31 v36 v37 v38 : Int} {v29 : List (List Int)} {v34 : Bool} {v35 : List Int} {A : List Pk} : ∀ (t pl : List Pk) (fuel : Nat), t.length < fuel → (∀ p ∈ t, gK p) → A.length + (pl ++ t).length ≤ 100000 →
    L335_1 f347 h354 h355 h348 h356 h351 h350 h349 h352 h357 h302 N q fuel W n' ((A.length : Nat) : Int) e' (kI (A ++ (pl ++ t))) (kI (pl ++ t)) v29 v30 v31 (((pl ++ t).length : Nat) : Int) ((pl.length : Nat) : Int) v34 v35 v36 v37 v38 = q W n' e' (kI (A ++ (pl ++ t))) v29 v30 v31 v34 v35 v36 v37 v38
  | [], pl, fuel + 1, _, _, _ => by
    rw [L335_1.eq_def]; simp only []
    rw [any_end, cond_false]
  | p :: t, pl, fuel + 1, hf, hg, hn => by
    have hn2 : A.length + (pl.length + t.length + 1) ≤ 100000 := by simpa [Nat.add_assoc] using hn
    have ih := L335_1_is (N := N) (q := q) (W := W) (n' := n') (e' := e') (v30 := v30) (v31 := v31) (v36 := v36) (v37 := v37) (v38 := v38) (v29 := v29) (v34 := v34) (v35 := v35) (A := A) t (pl ++ [p]) fuel (by simpa using hf) (fun z hz => hg z (by simp [hz])) (by rw [← any_app]; exact hn)
    rw [← any_app pl t p] at ih
    have g := hg p (by simp)
    have e1 : iadd .i64 ((A.length : Nat) : Int) ((pl.length : Nat) : Int) = ((A.length + pl.length : Nat) : Int) := addn (by omega)
    have k1 := kI_at pl t p pl.length rfl
    have k2 : geti (kI (A ++ (pl ++ p :: t))) ((A.length + pl.length : Nat) : Int) = some (enK p) := by
      rw [← List.append_assoc]; exact kI_at (A ++ pl) t p _ (by simp)
    have k3 := h357_is (p := p) g.2.2.1
    have k4 := same18 g
    rw [L335_1.eq_def]; simp only []
    rw [any_lt, cond_true, k1, e1, k2]
    generalize kI (A ++ (pl ++ p :: t)) = all at *
    generalize kI (pl ++ p :: t) = l at *
    obtain ⟨m, id, at', d⟩ := p
    simp only [enK] at k3 k4
    simp only [enK, k3, k4, Bool.not_true, cond_false]
    rw [any_inc pl _ (by omega)]
    exact ih
theorem kI_len' (l : List Pk) : List.length (α := PkI) (kI l) = l.length := kI_len l
theorem L335_is {N : Nat} (hN : 10000 < N) : ∀ (ps pre : List (List Nat)) (P : List Nat) (told fuel : Nat), ps.length < fuel → (pre ++ ps).length ≤ 100 → P.length + ps.flatten.length ≤ 9500 → bel 256 P → bel 256 ps.flatten → ((D P).2.2.1 = 0 → told = (D P).1.length) →
    L335_0 f347 h354 h355 h348 h356 h351 h350 h349 h352 h357 h302 N (some true) fuel (nI (P ++ ps.flatten)) ((P.length : Nat) : Int) (told : Int) (((D P).2.2.1 : Nat) : Int) (pI (pre ++ ps)) (((pre ++ ps).length : Nat) : Int) ((pre.length : Nat) : Int) true (nI (D P).2.1) (((D P).2.2.1 : Nat) : Int) (((D P).1.length : Nat) : Int) (((D P).2.2.2 : Nat) : Int) = some true
  | [], pre, P, told, fuel + 1, _, _, _, _, _, _ => by
    rw [L335_0.eq_def]; simp only []
    rw [any_end, cond_false]
  | x :: ps, pre, P, told, fuel + 1, hf, hp, hs, hP, hb, ht => by
    have hp2 : pre.length + ps.length + 1 ≤ 100 := by simpa [Nat.add_assoc] using hp
    obtain ⟨hx, hr⟩ := bel_flat hb
    rw [List.flatten_cons, List.length_append] at hs
    have hPx : bel 256 (P ++ x) := bel_app hP hx
    have ih := fun told' => L335_is hN ps (pre ++ [x]) (P ++ x) told' fuel (by simpa using hf) (by rw [← any_app]; exact hp) (by rw [List.length_append]; omega) hPx hr
    rw [← any_app pre ps x] at ih
    have eW : P ++ (x :: ps).flatten = (P ++ x) ++ ps.flatten := by rw [List.flatten_cons, List.append_assoc]
    have e1 : iadd .i64 ((P.length : Nat) : Int) ((x.length : Nat) : Int) = (((P ++ x).length : Nat) : Int) := by rw [List.length_append]; exact addn (by omega)
    have k1 := h355_is hPx (by rw [List.length_append]; omega)
    have da := D_app _ P x (Nat.lt_succ_self _)
    obtain ⟨d1, d2, d3, d4⟩ := D_is _ P (Nat.lt_succ_self _)
    obtain ⟨g1, g2, g3, g4⟩ := D_is _ (P ++ x) (Nat.lt_succ_self _)
    have hlx : (P ++ x).length = P.length + x.length := List.length_append
    rw [L335_0.eq_def]; simp only []
    rw [any_lt, cond_true, pI_at, eW]
    simp only [nI_len, e1, Int.toNat_natCast, nI_take]
    rw [List.take_left, k1]
    rw [decide_eq_true (show (0 : Int) ≤ (((P ++ x).length : Nat) : Int) by omega), decide_eq_true (show (((P ++ x).length : Nat) : Int) ≤ ((((P ++ x) ++ ps.flatten).length : Nat) : Int) by rw [List.length_append (as := P ++ x)]; omega), Bool.and_self, cond_true]
    by_cases he : (D P).2.2.1 = 0
    · have hh : bel 256 (D P).2.1 := by rw [(d1 he).2.2]; exact bel_drop hP
      have hl2 := (d1 he).2.1
      have ht := ht he
      have w : h348 (nI x) true (nI (D P).2.1) ((0 : Nat) : Int) (((D P).1.length : Nat) : Int) (((D P).2.2.2 : Nat) : Int) = _ := h348_0 (c := (D P).1.length) (a := (D P).2.2.2) hx hh (by omega) (by omega)
      rw [if_pos he] at da
      have hgood := D_good _ (P ++ x) (Nat.lt_succ_self _) hPx
      obtain ⟨z, z1, z2⟩ := h356_is (h := (P ++ x).drop (D (P ++ x)).2.2.2) (bel_drop hPx) (by rw [List.length_drop]; omega)
      have ea : List.take ((P ++ x).length - (D (P ++ x)).2.2.2) (List.drop (D (P ++ x)).2.2.2 (nI ((P ++ x) ++ ps.flatten))) = nI ((P ++ x).drop (D (P ++ x)).2.2.2) := by
        rw [nI_drop, nI_take, List.drop_append_of_le_length g4, List.take_append_of_le_length (by rw [List.length_drop]; exact Nat.le_refl _), List.take_of_length_le (by rw [List.length_drop]; exact Nat.le_refl _)]
      rw [he]
      have ih := ih (D (P ++ x)).1.length (fun _ => rfl)
      generalize hDX : D (P ++ x) = X at *
      generalize hDP : D P = Y at *
      generalize hDH : D (Y.2.1 ++ x) = Z at *
      obtain ⟨xl, xh, xe, xt⟩ := X
      obtain ⟨yl, yh, ye, yt⟩ := Y
      obtain ⟨zl, zh, ze, zt⟩ := Z
      simp only [Prod.mk.injEq] at da
      obtain ⟨rfl, rfl, rfl, rfl⟩ := da
      simp only [] at *
      subst ht
      rw [w]
      simp only [ea, z1, outW, stI, kI_len', Int.toNat_natCast]
      have hzl : (yl ++ zl).length = yl.length + zl.length := List.length_append
      rw [hzl]
      simp only [hlx]
      rw [show (((0 : Nat) : Int) != 0) = false from rfl, cond_false, decide_eq_true (show (0 : Int) ≤ ((yt + zt : Nat) : Int) by omega), decide_eq_true (show ((yt + zt : Nat) : Int) ≤ ((P.length + x.length : Nat) : Int) by omega), Bool.and_self, cond_true]
      have es : isub .i64 ((yl.length + zl.length : Nat) : Int) ((yl.length : Nat) : Int) = ((zl.length : Nat) : Int) := by rw [subz (by omega) (by omega)]; omega
      have L := fun (q : List Int → Int → Int → List (Bool × Int × (List (Int × (List Int))) × (List Int)) → List (List Int) → Int → Int → Bool → List Int → Int → Int → Int → Option Bool) (v36 v37 v38 : Int) (v35 : List Int) => L335_1_is (N := N) (q := q) (W := nI ((P ++ x) ++ ps.flatten)) (n' := ((P.length + x.length : Nat) : Int)) (e' := ((xe : Nat) : Int)) (v29 := pI (pre ++ x :: ps)) (v30 := (((pre ++ x :: ps).length : Nat) : Int)) (v31 := ((pre.length : Nat) : Int)) (v34 := true) (v35 := v35) (v36 := v36) (v37 := v37) (v38 := v38) (A := yl) zl [] N (by omega) (fun p hp => hgood p (by simp [hp])) (by simp; omega)
      simp only [List.nil_append, List.length_nil] at L
      simp only [hlx, hzl] at ih
      by_cases hxe : xe = 0
      · subst hxe
        obtain ⟨s1, s2, s3⟩ := g1 rfl
        have s4 : bel 256 xh := by rw [s3]; exact bel_drop hPx
        have k2 := h352_is 0 (yl.length + zl.length) (yt + zt) s4 (by omega)
        have z2 := z2 (by rw [← s3]; exact s1)
        rw [← s3] at z2
        have e9 : isub .i64 ((P.length + x.length : Nat) : Int) ((yt + zt : Nat) : Int) = ((xh.length : Nat) : Int) := by rw [subz (by omega) (by omega)]; omega
        rw [show (((0 : Nat) : Int) != 0) = false from rfl, cond_false]
        simp only [es, e9, z2, bne_self_eq_false, cond_false, h351_is, h350_is, h349_is, k2, stI, cond_true, kI_len', hzl]
        refine (L _ _ _ _ _).trans ?_
        simp only [kI_len', hzl]
        rw [any_inc pre x (by omega)]
        exact ih
      · have s2 := g2 hxe
        subst s2
        have k2 := h352_is (h := []) xe (yl.length + zl.length) (yt + zt) (fun x hx => by cases hx) (by simp)
        rw [show wantZ [] xe = 0 from if_pos hxe] at k2
        rw [bne_iff_ne.2 (show ((xe : Nat) : Int) ≠ 0 by omega), cond_true]
        simp only [es, bne_self_eq_false, cond_false, h351_is, h350_is, h349_is, k2, stI, cond_true, kI_len', hzl, List.length_nil, show (((0 : Nat) : Int) != 0) = false from rfl]
        refine (L _ _ _ _ _).trans ?_
        simp only [kI_len', hzl]
        rw [any_inc pre x (by omega)]
        exact ih
    · have s2 := d2 he
      rw [if_neg he] at da
      have w := h348_e (b := x) (h := (D P).2.1) (c := (D P).1.length) (a := (D P).2.2.2) he hx (by rw [s2]; exact fun x hx => by cases hx) (by rw [s2]; simp; omega) (by omega)
      rw [da] at ih
      have ih := ih told (fun g => absurd g he)
      rw [w]
      simp only [outW, stI, kI, List.map_nil, List.length_nil, show (((0 : Nat) : Int) != 0) = false from rfl, cond_false, bne_self_eq_false]
      rw [bne_iff_ne.2 (show (((D P).2.2.1 : Nat) : Int) ≠ 0 by omega), cond_true, any_inc pre x (by omega)]
      exact ih
def f335 (b t : List Int) := p335 f347 h354 h355 h348 h356 h351 h350 h349 h352 h357 h302 20000 b t
theorem E335 : EntOK FT XT 335 (en335 f335) := ok335 f347 h354 h355 h348 h356 h351 h350 h349 h352 h357 h302 E347 E354 E355 E356 E357 E302 R348 R351 R350 R349 R352 fun _ _ _ h => ⟨20000, h⟩
theorem f335_is {b t : List Nat} (hb : bel 256 b) (ht : bel 65536 t) : f335 (nI b) (nI t) = some true := by
  unfold f335 p335
  rw [nI_len]
  by_cases h : 9000 < b.length
  · rw [decide_eq_true (by omega), cond_true]; rfl
  rw [decide_eq_false (by omega), cond_false]
  obtain ⟨ps, p1, p2, p3⟩ := h354_is (b := b) (t := t) (by omega) ht
  rw [p1]
  simp only [pI_len, f347]
  have := L335_is (N := 20000) (by omega) ps [] [] 0 20000 (by omega) (by simp; omega) (by rw [p2]; simp; omega) (fun x hx => by cases hx) (by rw [p2]; exact hb) (fun _ => rfl)
  rw [p2] at this
  exact this
theorem law335 (z0 z1 : List Int) (h0 : okD (Sh.sl (Sh.int .u8)) z0) (h1 : okD (Sh.sl (Sh.int .u16)) z1) : Ans FT XT 335 (encL [Sh.sl (Sh.int .u8), Sh.sl (Sh.int .u16)] (z0, (z1, ()))) [] (.bool true) [] := by
  obtain ⟨a, rfl, ha⟩ := wf8s h0.2
  obtain ⟨t, rfl, ht⟩ := wf16s h1.2
  exact E335.2 (nI a, (nI t, ())) true (f335_is ha ht)
end Go.Proofs.YteagngpgghnlmaaE
