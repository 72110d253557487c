/- Chapter 18: the laws. -/
import Derived.Test.YteagngpgghnlmaaEvC18P
import Derived.Test.YteagngpgghnlmaaEvOp
namespace Go.Proofs.YteagngpgghnlmaaE
open Go
set_option linter.unusedSimpArgs false
set_option linter.unusedVariables false
set_option maxRecDepth 4000

def f338 : Option Bool := some true
theorem E338 : EntOK FT XT 338 (en338 f338) := ok338 h316 h317 h341 h343 h346 h302 h323 E316 E317 E341 E343 E346 E302 E323 fun r h => ⟨0, by rw [← h]; kernel_rfl⟩
theorem lay18_len {p : Pk} : (lay18 p).1.length ≤ 4095 := by
  by_cases h : (lay18 p).2 = 0
  · exact (len18_of h []).2.2
  · rw [lay18_bad h]; exact Nat.zero_le _
theorem lay18_bel {p : Pk} (g : gK p) : bel 256 (lay18 p).1 := by
  by_cases h : (lay18 p).2 = 0
  · obtain ⟨h1, h2, h3⟩ := lay18_ok h
    have hb : bel 256 (body18 p).1 := by
      rcases body18_ok h1 with ⟨_, _, _, g4⟩ | ⟨_, _, g3⟩
      · rw [g4]; exact bel_app (be2_bel _) (bel_app (be2_bel _) (layA_bel _ g.2.1))
      · rw [g3]; exact g.2.2.2.1
    rw [h3]
    intro x hx
    simp only [List.mem_cons] at hx
    rcases hx with rfl | rfl | rfl | rfl | hx
    · omega
    · cases p.1 <;> decide
    · omega
    · omega
    · exact hb x hx
  · rw [lay18_bad h]; exact fun x hx => by cases hx
/-- what a packet of the statement is: its numbers in their kinds -/
def wK (p : Pk) : Prop := p.2.1 < 65536 ∧ (∀ a ∈ p.2.2.1, a.1 < 256 ∧ bel 256 a.2) ∧ bel 256 p.2.2.2
theorem wK_good {p : Pk} (w : wK p) (h : p.2.2.1.length ≤ 12 ∧ p.2.2.2.length ≤ 5000 ∧ ∀ a ∈ p.2.2.1, a.2.length ≤ 4200) : gK p :=
  ⟨w.1, fun a ha => ⟨(w.2.1 a ha).1, (w.2.1 a ha).2, Nat.le_trans (h.2.2 a ha) (by decide)⟩, h.1, w.2.2, h.2.1⟩
def f328 (p : PkI) := p328 h337 f338 h339 h317 h319 f23 h323 h340 0 p
theorem E328 : EntOK FT XT 328 (en328 f328) := ok328 h337 f338 h339 h317 h319 f23 h323 h340 E337 E338 E339 E317 E319 E23 E323 E340 fun _ _ h => ⟨0, h⟩
theorem f328_is {p : Pk} (w : wK p) : f328 (enK p) = some true := by
  obtain ⟨r, hr, hf⟩ := h337_is p
  cases r
  · have g := wK_good w (hf rfl)
    have k1 := h339_is (p := p) g.2.2.1
    have k2 := h317_is g
    have k3 := h319_is g
    have k4 := h323_is g
    have k5 := h340_is g
    have k6 : f23 (nI (lay18 p).1) (nI (lay18 p).1) = some true := f23_same (by rw [nI_len]; have := @lay18_len p; omega)
    obtain ⟨m, id, l, d⟩ := p
    simp only [enK] at hr k1 k2 k3 k4 k5
    unfold f328 p328
    simp only [enK, hr, k1, k2, k3, k4, k5, enB, k6, cond_true, cond_false, beq_self_eq_true, f338]
  · obtain ⟨m, id, l, d⟩ := p
    simp only [enK] at hr
    unfold f328 p328
    simp only [enK, hr, cond_true, f338]
def f329 (b : List Int) := p329 f338 h341 h342 h343 h344 h339 h302 0 b
theorem E329 : EntOK FT XT 329 (en329 f329) := ok329 f338 h341 h342 h343 h344 h339 h302 E338 E341 E342 E343 E344 E339 E302 fun _ _ h => ⟨0, h⟩
theorem f329_is {b : List Nat} (hb : bel 256 b) : f329 (nI b) = some true := by
  unfold f329 p329
  rw [nI_len]
  by_cases h : 5000 < b.length
  · rw [decide_eq_true (by omega), cond_true]; rfl
  rw [decide_eq_false (by omega), cond_false]
  have k1 := h341_is hb (by omega)
  have k2 := h342_is hb (by omega)
  have k3 := h343_is hb
  have k4 := h344_is hb
  have g := parse18_good hb (by omega)
  have k5 := h339_is (p := (parse18 b).1) g.2.2.1
  have k6 := h302_is g g
  rw [beq_self_eq_true] at k6
  generalize parse18 b = Q at *
  obtain ⟨⟨m, id, l, d⟩, e⟩ := Q
  simp only [enQ, enK] at k1 k2 k5 k6
  simp only [k1, k2, k3, k4, k5, k6, enN, cond_true, beq_self_eq_true, f338]
def f331 (n : Int) (p : PkI) := p331 h337 f338 h339 h316 h346 h302 h323 h340 0 n p
theorem E331 : EntOK FT XT 331 (en331 f331) := ok331 h337 f338 h339 h316 h346 h302 h323 h340 E337 E338 E339 E316 E346 E302 E323 E340 fun _ _ _ h => ⟨0, h⟩
theorem f331_is {n : Nat} {p : Pk} (hn : n < 65536) (w : wK p) : f331 (n : Int) (enK p) = some true := by
  obtain ⟨r, hr, hf⟩ := h337_is p
  cases r
  · have g := wK_good w (hf rfl)
    have k1 := h339_is (p := p) g.2.2.1
    obtain ⟨m, id, l, d⟩ := p
    have ga : gK (true, n, l, []) := ⟨hn, g.2.1, g.2.2.1, (fun x hx => by cases hx), Nat.zero_le _⟩
    have gb : gK (false, 0, [], d) := ⟨(by show 0 < 65536; decide), (fun x hx => by cases hx), Nat.zero_le _, g.2.2.2.1, g.2.2.2.2⟩
    have k2 := h302_is ga ga
    have k3 := h302_is gb gb
    have k4 := h323_is ga
    have k5 := h340_is ga
    have k6 : h323 (false, (0, ([], nI d))) = some 0 := h323_is gb
    have k7 : h316 (n : Int) (nA l) = _ := h316_is (by rw [nA_len]; have := g.2.2.1; simp only [] at this; omega)
    have k8 : h346 (nI d) = _ := h346_is (by rw [nI_len]; have := g.2.2.2.2; simp only [] at this; omega)
    rw [beq_self_eq_true] at k2 k3
    replace k3 : h302 (false, (0, ([], nI d))) (false, (0, ([], nI d))) = some true := k3
    replace k2 : h302 (true, ((n : Int), (nA l, []))) (true, ((n : Int), (nA l, []))) = some true := k2
    replace k4 : h323 (true, ((n : Int), (nA l, []))) = _ := k4
    replace k5 : h340 (true, ((n : Int), (nA l, []))) = _ := k5
    simp only [enK] at hr k1
    unfold f331 p331
    simp only [enK, hr, k1, k2, k3, k4, k5, k6, k7, k8, cond_true, cond_false, beq_self_eq_true, f338]
  · obtain ⟨m, id, l, d⟩ := p
    simp only [enK] at hr
    unfold f331 p331
    simp only [enK, hr, cond_true, f338]
def f332 (p : PkI) (n : Int) := p332 h337 f338 h339 h317 h343 h341 0 p n
theorem E332 : EntOK FT XT 332 (en332 f332) := ok332 h337 f338 h339 h317 h343 h341 E337 E338 E339 E317 E343 E341 fun _ _ _ h => ⟨0, h⟩
theorem f332_is {n : Nat} {p : Pk} (hn : n < 65536) (w : wK p) : f332 (enK p) (n : Int) = some true := by
  obtain ⟨r, hr, hf⟩ := h337_is p
  cases r
  · have g := wK_good w (hf rfl)
    have k1 := h339_is (p := p) g.2.2.1
    have k2 := h317_is g
    have hl := @lay18_len p
    have hb := lay18_bel g
    have hbad := @lay18_bad p
    have hof := @len18_of p
    generalize lay18 p = Q at *
    obtain ⟨b, e⟩ := Q
    obtain ⟨m, id, l, d⟩ := p
    simp only [enK, enB] at hr k1 k2 hl hb hbad hof
    unfold f332 p332
    simp only [enK, hr, k1, k2, nI_len, cond_false]
    by_cases he : e = 0
    · subst he
      rw [show (((0 : Nat) : Int) != 0) = false from rfl, cond_false]
      obtain ⟨o1, o2, o3⟩ := hof rfl []
      rw [beq_eq_false_iff_ne.2 (show ((b.length : Nat) : Int) ≠ 0 by omega), cond_false, cond_false, wrap_i64 (by omega) (by omega), irem_n]
      have hlt : n % b.length < b.length := Nat.mod_lt _ (by omega)
      generalize n % b.length = k at *
      rw [decide_eq_true (show (0 : Int) ≤ ((k : Nat) : Int) by omega), decide_eq_true (show ((k : Nat) : Int) ≤ ((b.length : Nat) : Int) by omega), Bool.and_self, cond_true, Int.toNat_natCast, nI_take, h343_is (bel_take hb), h341_is (bel_take hb) (by rw [List.length_take]; omega), decide_eq_true (show ((b.length : Nat) : Int) ≤ 4095 by omega)]
      have ht : (b.take k).length = k := by rw [List.length_take]; omega
      by_cases h4 : k < 4
      · have e1 := len18_short (b := b.take k) (by omega)
        have e2 : (parse18 (b.take k)).2 = 4 := by
          unfold parse18
          rw [e1, if_pos (by decide)]
        simp only [enN, enQ, cond_true, e1, e2, decide_eq_true (show ((k : Nat) : Int) < 4 by omega)]
        rfl
      · have e1 : len18 (b.take k) = (b.length, 0) := by
          have := (hof rfl ((b.drop 4).take (k - 4))).1
          rw [show b.take 4 ++ (b.drop 4).take (k - 4) = b.take k by rw [show k = 4 + (k - 4) by omega, List.take_add]; simp] at this
          exact this
        have e2 : (parse18 (b.take k)).2 = 4 := by
          unfold parse18
          rw [e1, if_neg (fun e => e rfl), ht, if_pos hlt]
        simp only [enN, enQ, cond_true, e1, e2, decide_eq_false (show ¬ ((k : Nat) : Int) < 4 by omega), beq_self_eq_true]
        rfl
    · have hb0 := hbad he
      subst hb0
      rw [bne_iff_ne.2 (show ((e : Nat) : Int) ≠ 0 by omega), cond_true]; rfl
  · obtain ⟨m, id, l, d⟩ := p
    simp only [enK] at hr
    unfold f332 p332
    simp only [enK, hr, cond_true, f338]
def f330 (p q : PkI) (b : List Int) := p330 h337 f338 h339 h302 h345 h317 h341 f23 0 p q b
theorem E330 : EntOK FT XT 330 (en330 f330) := ok330 h337 f338 h339 h302 h345 h317 h341 f23 E337 E338 E339 E302 E345 E317 E341 E23 fun _ _ _ _ h => ⟨0, h⟩
theorem f330_is {p q : Pk} {b : List Nat} (w : wK p) (w' : wK q) (hb : bel 256 b) : f330 (enK p) (enK q) (nI b) = some true := by
  obtain ⟨r, hr, hf⟩ := h337_is p
  cases r
  · obtain ⟨r', hr', hf'⟩ := h337_is q
    cases r'
    · by_cases h : 5000 < b.length
      · obtain ⟨m, id, l, d⟩ := p
        obtain ⟨m', id', l', d'⟩ := q
        simp only [enK] at hr hr'
        unfold f330 p330
        simp only [enK, hr, hr', cond_false, nI_len]
        rw [decide_eq_true (by omega), cond_true]; rfl
      · have g := wK_good w (hf rfl)
        have g' := wK_good w' (hf' rfl)
        have k1 := h339_is (p := p) g.2.2.1
        have k1' := h339_is (p := q) g'.2.2.1
        have k2 := h302_is g g'
        have k3 := h345_is g g'
        have k4 := h317_is g
        have p1 := h341_is hb (by omega)
        have pg := parse18_good hb (by omega)
        have tl : ∃ (x : PkI) (y : Int), h341 (nI b) = some ((x.1, (x.2.1, (x.2.2.1, x.2.2.2))), y) ∧ ((y != (0 : Int)) = true → h302 (x.1, (x.2.1, (x.2.2.1, x.2.2.2))) (false, ((0 : Int), (([] : List (Int × (List Int))), ([] : List Int)))) = some true) ∧ ((y != (0 : Int)) = false → h317 (x.1, (x.2.1, (x.2.2.1, x.2.2.2))) = some (nI b, 0)) := by
          refine ⟨enK (parse18 b).1, ((parse18 b).2 : Int), p1, fun e => ?_, fun e => ?_⟩
          · rw [parse18_bad (fun h => by rw [h] at e; cases e)]
            have := h302_is zero18_good zero18_good
            rw [beq_self_eq_true] at this; exact this
          · have e0 : (parse18 b).2 = 0 := by
              have := bne_eq_false_iff_eq.1 e; omega
            have := h317_is pg
            rw [forth18 hb e0] at this; exact this
        obtain ⟨x, y, t1, t2, t3⟩ := tl
        have t4 : f23 (nI b) (nI b) = some true := f23_same (by rw [nI_len]; omega)
        have bk : (lay18 p).2 = 0 → h341 (nI (lay18 p).1) = some (enK (norm18 p), 0) := fun e => by
          rw [h341_is (lay18_bel g) (by have := @lay18_len p; omega), back18 g e]; rfl
        have ng : gK (norm18 p) := by
          unfold norm18
          split
          · exact ⟨g.1, g.2.1, g.2.2.1, (fun x hx => by cases hx), Nat.zero_le _⟩
          · exact ⟨(by show 0 < 65536; decide), (fun x hx => by cases hx), Nat.zero_le _, g.2.2.2.1, g.2.2.2.2⟩
        have k5 := h302_is ng ng
        rw [beq_self_eq_true] at k5
        generalize lay18 p = Q at *
        obtain ⟨c, e⟩ := Q
        generalize (p == q) = pq at *
        obtain ⟨m, id, l, d⟩ := p
        obtain ⟨m', id', l', d'⟩ := q
        simp only [enK, enB] at hr hr' k1 k1' k2 k3 k4
        unfold f330 p330
        simp only [enK, hr, hr', cond_false, nI_len, k1, k1', k2, k3, k4, t1, beq_self_eq_true, Bool.not_true]
        rw [decide_eq_false (by omega), cond_false]
        by_cases he : e = 0
        · subst he
          have bk := bk rfl
          cases m
          · replace bk : h341 (nI c) = some ((false, ((0 : Int), ([], nI d))), 0) := bk
            replace k5 : h302 (false, ((0 : Int), ([], nI d))) (false, ((0 : Int), ([], nI d))) = some true := k5
            simp only [bk, k5, cond_true, cond_false, Bool.not_true, show (((0 : Nat) : Int) == 0) = true from rfl, show ((0 : Int) != 0) = false from rfl]
            cases hy : (y != (0 : Int))
            · simp only [t3 hy, t4, cond_true, cond_false, beq_self_eq_true, f338]
            · simp only [t2 hy, cond_true, f338]
          · replace bk : h341 (nI c) = some ((true, ((id : Int), (nA l, []))), 0) := bk
            replace k5 : h302 (true, ((id : Int), (nA l, []))) (true, ((id : Int), (nA l, []))) = some true := k5
            simp only [bk, k5, cond_true, cond_false, Bool.not_true, show (((0 : Nat) : Int) == 0) = true from rfl, show ((0 : Int) != 0) = false from rfl]
            cases hy : (y != (0 : Int))
            · simp only [t3 hy, t4, cond_true, cond_false, beq_self_eq_true, f338]
            · simp only [t2 hy, cond_true, f338]
        · simp only [beq_eq_false_iff_ne.2 (show ((e : Nat) : Int) ≠ 0 by omega), cond_false]
          cases hy : (y != (0 : Int))
          · simp only [t3 hy, t4, cond_true, cond_false, beq_self_eq_true, f338]; cases m <;> rfl
          · simp only [t2 hy, cond_true, f338]; cases m <;> rfl
    · obtain ⟨m, id, l, d⟩ := p
      obtain ⟨m', id', l', d'⟩ := q
      simp only [enK] at hr hr'
      unfold f330 p330
      simp only [enK, hr, hr', cond_true, cond_false, f338]
  · obtain ⟨m, id, l, d⟩ := p
    simp only [enK] at hr
    unfold f330 p330
    simp only [enK, hr, cond_true, f338]
/-! ### the arguments of the statements -/
abbrev shK : Sh := Sh.st (Sh.pr Sh.bool (Sh.pr (Sh.int .u16) (Sh.pr (Sh.sl (Sh.pr (Sh.int .u8) (Sh.sl (Sh.int .u8)))) (Sh.sl (Sh.int .u8)))))
theorem wf8 {x : Int} (h : (Lit.int .u8 x).wf = true) : ∃ n : Nat, x = (n : Int) ∧ n < 256 := by
  obtain ⟨h1, h2⟩ := wf_u (k := .u8) rfl h
  exact ⟨x.toNat, by omega, by have : x < 256 := h2; omega⟩
theorem okA : ∀ l : List (Int × List Int), (∀ x ∈ l, okD shA x) → ∃ r : List At, l = nA r ∧ ∀ a ∈ r, a.1 < 256 ∧ bel 256 a.2
  | [], _ => ⟨[], rfl, fun x hx => by cases hx⟩
  | a :: t, h => by
    obtain ⟨r, rfl, hr⟩ := okA t (fun x hx => h x (List.mem_cons_of_mem _ hx))
    obtain ⟨h1, h2, h3⟩ := h a (by simp)
    obtain ⟨a1, a2⟩ := a
    obtain ⟨n, rfl, hn⟩ := wf8 h1
    obtain ⟨d, rfl, hd⟩ := wf8s h3
    refine ⟨(n, d) :: r, rfl, fun x hx => ?_⟩
    rcases List.mem_cons.1 hx with rfl | hx
    · exact ⟨hn, hd⟩
    · exact hr x hx
theorem okK {z : PkI} (h : okD shK z) : ∃ p : Pk, z = enK p ∧ wK p := by
  obtain ⟨m, id, l, d⟩ := z
  obtain ⟨_, h1, ⟨_, h2⟩, ⟨_, h3⟩⟩ := h
  obtain ⟨n, rfl, hn⟩ := wf16 h1
  obtain ⟨r, rfl, hr⟩ := okA l h2
  obtain ⟨d, rfl, hd⟩ := wf8s h3
  exact ⟨(m, n, r, d), rfl, hn, hr, hd⟩
theorem law328 (z0 : PkI) (h0 : okD shK z0) : Ans FT XT 328 (encL [shK] (z0, ())) [] (.bool true) [] := by
  obtain ⟨p, rfl, w⟩ := okK h0
  exact E328.2 (enK p, ()) true (f328_is w)
theorem law329 (z0 : List Int) (h0 : okD (Sh.sl (Sh.int .u8)) z0) : Ans FT XT 329 (encL [Sh.sl (Sh.int .u8)] (z0, ())) [] (.bool true) [] := by
  obtain ⟨b, rfl, hb⟩ := wf8s h0.2
  exact E329.2 (nI b, ()) true (f329_is hb)
theorem law330 (z0 z1 : PkI) (z2 : List Int) (h0 : okD shK z0) (h1 : okD shK z1) (h2 : okD (Sh.sl (Sh.int .u8)) z2) : Ans FT XT 330 (encL [shK, shK, Sh.sl (Sh.int .u8)] (z0, (z1, (z2, ())))) [] (.bool true) [] := by
  obtain ⟨p, rfl, w⟩ := okK h0
  obtain ⟨q, rfl, w'⟩ := okK h1
  obtain ⟨b, rfl, hb⟩ := wf8s h2.2
  exact E330.2 (enK p, (enK q, (nI b, ()))) true (f330_is w w' hb)
theorem law331 (z0 : Int) (z1 : PkI) (h0 : okD (Sh.int .u16) z0) (h1 : okD shK z1) : Ans FT XT 331 (encL [Sh.int .u16, shK] (z0, (z1, ()))) [] (.bool true) [] := by
  obtain ⟨n, rfl, hn⟩ := wf16 h0
  obtain ⟨p, rfl, w⟩ := okK h1
  exact E331.2 ((n : Int), (enK p, ())) true (f331_is hn w)
theorem law332 (z0 : PkI) (z1 : Int) (h0 : okD shK z0) (h1 : okD (Sh.int .u16) z1) : Ans FT XT 332 (encL [shK, Sh.int .u16] (z0, (z1, ()))) [] (.bool true) [] := by
  obtain ⟨p, rfl, w⟩ := okK h0
  obtain ⟨n, rfl, hn⟩ := wf16 h1
  exact E332.2 (enK p, ((n : Int), ())) true (f332_is hn w)
end Go.Proofs.YteagngpgghnlmaaE
