/- Chapter 19: the other laws. -/
import Derived.Test.YteagngpgghnlmaaEvC19
namespace Go.Proofs.YteagngpgghnlmaaE
open Go
set_option linter.unusedSimpArgs false
set_option linter.unusedVariables false
set_option maxRecDepth 4000

theorem h348_0 {b h : List Nat} {c a : Nat} (hb : bel 256 b) (hh : bel 256 h) (hl : h.length + b.length ≤ 15000) (hc : c + a ≤ 500000) : h348 (nI b) true (nI h) 0 (c : Int) (a : Int) = some (outW (D (h ++ b)).1 (D (h ++ b)).2.2.1 (D (h ++ b)).2.1 (D (h ++ b)).2.2.1 (c + (D (h ++ b)).1.length) (a + (D (h ++ b)).2.2.2)) := by
  have w := h348_is (e := 0) (c := c) (a := a) hb hh hl hc
  rw [show wrS b h 0 c a = ((D (h ++ b)).1, (D (h ++ b)).2.2.1, (D (h ++ b)).2.1, (D (h ++ b)).2.2.1, c + (D (h ++ b)).1.length, a + (D (h ++ b)).2.2.2) from if_pos rfl] at w
  exact w
theorem h348_e {b h : List Nat} {e c a : Nat} (he : e ≠ 0) (hb : bel 256 b) (hh : bel 256 h) (hl : h.length + b.length ≤ 15000) (hc : c + a ≤ 500000) : h348 (nI b) true (nI h) (e : Int) (c : Int) (a : Int) = some (outW [] e h e c a) := by
  have w := h348_is (e := e) (c := c) (a := a) hb hh hl hc
  rw [show wrS b h e c a = ([], e, h, e, c, a) from if_neg he] at w
  exact w
theorem stuck_want {h : List Nat} (s : stuck h) : 1 ≤ wantZ h 0 := by
  unfold wantZ
  rw [if_neg (fun g => g rfl)]
  rcases s with s | ⟨s, t⟩
  · have := len18_4.1 s
    rw [if_pos (by omega)]; omega
  · rw [if_neg (fun g => g s)]; omega
theorem stuck_nil : stuck [] := .inl rfl
theorem bel_flat {ps : List (List Nat)} {x : List Nat} (h : bel 256 (x :: ps).flatten) : bel 256 x ∧ bel 256 ps.flatten := by
  rw [List.flatten_cons] at h
  exact ⟨fun y hy => h y (by simp [hy]), fun y hy => h y (by rw [List.mem_append]; exact .inr hy)⟩
theorem L334_is {N : Nat} : ∀ (ps pre : List (List Nat)) (h : List Nat) (n c a fuel : Nat), ps.length < fuel → (pre ++ ps).length ≤ 100 → n = a + h.length → n + ps.flatten.length ≤ 10000 → 5 * c ≤ a → bel 256 h → bel 256 ps.flatten →
    L334_0 f347 h354 h348 h349 h352 h351 h350 N (some true) fuel (n : Int) (pI (pre ++ ps)) (((pre ++ ps).length : Nat) : Int) ((pre.length : Nat) : Int) true (nI h) 0 (c : Int) (a : Int) = some true
  | [], pre, h, n, c, a, fuel + 1, _, _, _, _, _, _, _ => by
    rw [L334_0.eq_def]; simp only []; rw [any_end, cond_false]
  | x :: ps, pre, h, n, c, a, fuel + 1, hf, hp, hn, hs, hc, hh, hb => by
    have hp2 : pre.length + ps.length + 1 ≤ 100 := by simpa [Nat.add_assoc] using hp
    obtain ⟨hx, hr⟩ := bel_flat hb
    rw [List.flatten_cons, List.length_append] at hs
    have w := h348_0 (c := c) (a := a) hx hh (by omega) (by omega)
    obtain ⟨d1, d2, d3, d4⟩ := D_is _ (h ++ x) (Nat.lt_succ_self _)
    rw [List.length_append] at d1 d4
    have ih := fun hh' c' a' => L334_is (N := N) ps (pre ++ [x]) hh' (n + x.length) c' a' fuel (by simpa using hf) (by rw [← any_app]; exact hp)
    rw [← any_app pre ps x] at ih
    rw [L334_0.eq_def]; simp only []; rw [any_lt, cond_true, pI_at]
    generalize hD : D (h ++ x) = X at *
    obtain ⟨l, hh', e, t⟩ := X
    simp only [] at w d1 d2 d3 d4
    simp only [w, outW, stI]
    by_cases he : e = 0
    · subst he
      obtain ⟨s1, s2, s3⟩ := d1 rfl
      have s4 : bel 256 hh' := by rw [s3]; exact bel_drop (bel_app hh hx)
      have k2 := h352_is 0 (c + l.length) (a + t) s4 (by omega)
      have wz := stuck_want s1
      have e1 : iadd .i64 ((hh'.length : Nat) : Int) ((a + t : Nat) : Int) = ((hh'.length + (a + t) : Nat) : Int) := addn (by omega)
      have e2 : iadd .i64 ((n : Nat) : Int) ((x.length : Nat) : Int) = ((n + x.length : Nat) : Int) := addn (by omega)
      have e3 : imul .i64 5 ((c + l.length : Nat) : Int) = ((5 * (c + l.length) : Nat) : Int) := muln (a := 5) (by omega)
      rw [show (((0 : Nat) : Int) != 0) = false from rfl, cond_false]
      simp only [h349_is, h351_is, h350_is, k2, stI, nI_len, e1, e2, e3]
      rw [show (((hh'.length + (a + t) : Nat) : Int) != ((n + x.length : Nat) : Int)) = false from by rw [show hh'.length + (a + t) = n + x.length by omega]; exact bne_self_eq_false _, cond_false, decide_eq_false (by omega), cond_false, decide_eq_false (by omega), cond_false, any_inc pre x (by omega)]
      exact ih hh' (c + l.length) (a + t) (by omega) (by omega) (by omega) s4 hr
    · have s2 := d2 he
      subst s2
      have k2 := h352_is (h := []) e (c + l.length) (a + t) (fun x hx => by cases hx) (by simp)
      rw [show wantZ [] e = 0 from if_pos he] at k2
      rw [bne_iff_ne.2 (show ((e : Nat) : Int) ≠ 0 by omega), cond_true]
      simp only [h349_is, k2, stI, List.length_nil, show (((0 : Nat) : Int) == 0) = true from rfl, beq_self_eq_true, cond_true, f347]
def f334 (b t : List Int) := p334 f347 h354 h348 h349 h352 h351 h350 100 b t
theorem E334 : EntOK FT XT 334 (en334 f334) := ok334 f347 h354 h348 h349 h352 h351 h350 E347 E354 R348 R349 R352 R351 R350 fun _ _ _ h => ⟨100, h⟩
theorem f334_is {b t : List Nat} (hb : bel 256 b) (ht : bel 65536 t) : f334 (nI b) (nI t) = some true := by
  unfold f334 p334
  rw [nI_len]
  by_cases h : 6000 < b.length
  · rw [decide_eq_true (by omega), cond_true]; rfl
  rw [decide_eq_false (by omega), cond_false]
  obtain ⟨ps, p1, p2, p3⟩ := h354_is (b := b) (t := t) (by omega) ht
  rw [p1]
  simp only [pI_len, f347]
  exact L334_is (N := 100) ps [] [] 0 0 0 100 (by omega) (by simp; omega) rfl (by rw [p2]; omega) (by omega) (fun x hx => by cases hx) (by rw [p2]; exact hb)
theorem wf16s : ∀ {l : List Int}, (∀ x ∈ l, (Lit.int .u16 x).wf = true) → ∃ r : List Nat, l = nI r ∧ bel 65536 r
  | [], _ => ⟨[], rfl, fun x hx => by cases hx⟩
  | a :: t, h => by
    obtain ⟨r, rfl, hr⟩ := wf16s (l := t) (fun x hx => h x (List.mem_cons_of_mem _ hx))
    obtain ⟨n, rfl, hn⟩ := wf16 (h a (by simp))
    refine ⟨n :: r, rfl, fun x hx => ?_⟩
    rcases List.mem_cons.1 hx with rfl | hx
    · exact hn
    · exact hr x hx
theorem law334 (z0 z1 : List Int) (h0 : okD (Sh.sl (Sh.int .u8)) z0) (h1 : okD (Sh.sl (Sh.int .u16)) z1) : Ans FT XT 334 (encL [Sh.sl (Sh.int .u8), Sh.sl (Sh.int .u16)] (z0, (z1, ()))) [] (.bool true) [] := by
  obtain ⟨a, rfl, ha⟩ := wf8s h0.2
  obtain ⟨t, rfl, ht⟩ := wf16s h1.2
  exact E334.2 (nI a, (nI t, ())) true (f334_is ha ht)
end Go.Proofs.YteagngpgghnlmaaE
