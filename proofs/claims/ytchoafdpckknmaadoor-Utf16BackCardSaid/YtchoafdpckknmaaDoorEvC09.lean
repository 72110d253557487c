/- Chapter 09: any text's units and bytes; what is laid is parsed, what is parsed is laid. -/
import Derived.Test.YtchoafdpckknmaaDoorEvUd
import Derived.Test.YtchoafdpckknmaaDoorEvOp
import Derived.KernelRfl
namespace Go.Proofs.YtchoafdpckknmaaDoorE
open Go
set_option linter.unusedSimpArgs false
set_option linter.unusedVariables false
set_option maxRecDepth 4000
/-! ### bytes held against bytes -/
theorem L23_is (N : Nat) (a b : List Int) (hl : a.length = b.length) (hb : a.length < 2 ^ 40) : ∀ d i fuel, i + d = a.length → d < fuel → L23_0 N (some true) fuel a b (i : Int) = some (a.drop i == b.drop i) := by
  intro d
  induction d with
  | zero =>
    intro i fuel hd hf
    obtain ⟨m, rfl⟩ : ∃ m, fuel = m + 1 := ⟨fuel - 1, by omega⟩
    simp only [L23_0, show ¬ ((i : Int) < ((a.length : Nat) : Int)) by omega, decide_false, cond_false]
    rw [List.drop_of_length_le (by omega), List.drop_of_length_le (by omega)]
    rfl
  | succ d ih =>
    intro i fuel hd hf
    obtain ⟨m, rfl⟩ : ∃ m, fuel = m + 1 := ⟨fuel - 1, by omega⟩
    have hi : i < a.length := by omega
    have hi2 : i < b.length := by omega
    rw [List.drop_eq_getElem_cons hi, List.drop_eq_getElem_cons hi2]
    simp only [L23_0, show ((i : Int) < ((a.length : Nat) : Int)) by omega, decide_true, cond_true, geti_nat, List.getElem?_eq_getElem hi, List.getElem?_eq_getElem hi2]
    by_cases e : a[i] = b[i]
    · rw [e]
      simp only [bne_self_eq_false, cond_false]
      rw [up1 (by omega), ih (i + 1) m (by omega) (by omega)]
      rw [List.cons_beq_cons, beq_self_eq_true, Bool.true_and]
    · simp only [show (a[i] != b[i]) = true from bne_iff_ne.2 e, cond_true]
      congr 1
      symm
      rw [beq_eq_false_iff_ne]
      intro h; injection h with h1 h2; exact e h1
def f23 (a b : List Int) : Option Bool := if a.length < 1099511627776 then some (a == b) else none
theorem E23 : EntOK FT XU 23 (en23 f23) := ok23 fun a b r h => ⟨a.length + 1, by
  unfold f23 at h
  split at h <;> try (cases h; done)
  rename_i hb
  unfold p23
  by_cases hl : a.length = b.length
  · simp only [hl, bne_self_eq_false, cond_false]
    rw [← hl]
    have := L23_is (a.length + 1) a b hl hb a.length 0 (a.length + 1) (by omega) (by omega)
    rw [List.drop_zero, List.drop_zero] at this
    exact this.trans h
  · simp only [show ((((a.length : Nat) : Int)) != ((b.length : Nat) : Int)) = true from bne_iff_ne.2 (by omega), cond_true]
    rw [← h]
    congr 1
    symm
    rw [beq_eq_false_iff_ne]
    intro e; exact hl (by rw [e])⟩
theorem f23_same {a : List Int} (h : a.length < 1099511627776) : f23 a a = some true := by unfold f23; rw [if_pos h, beq_self_eq_true]
theorem wf_bel {k : IntKind} (hk : k.signed = false) {l : List Int} (h : ∀ x ∈ l, (Lit.int k x).wf = true) : ∃ r : List Nat, l = nI r ∧ bel (2 ^ k.bits) r := by
 obtain ⟨r, rfl⟩ := nI_of (l := l) (fun x hx => (wf_u hk (h x hx)).1)
 refine ⟨r, rfl, fun x hx => ?_⟩
 have := (wf_u hk (h (x : Int) (List.mem_map.2 ⟨x, hx, rfl⟩))).2
 exact_mod_cast this
/-! ### Count -/
def cntS (s : List UInt8) : Nat := match signs s with | some l => l.length | none => 0
def h409 (s : List UInt8) := p409 h396 h397 0 s
theorem E409 : EntOK FT XU 409 (en409 h409) := ok409 h396 h397 E396 E397 fun _ _ h => ⟨0, h⟩
theorem h409_is {s : List UInt8} (hs : s.length ≤ 1000) : h409 s = some ((cntS s : Nat) : Int) := by
  unfold h409 p409 cntS
  rw [h396_is hs]
  unfold valid
  cases hg : signs s with
  | none => rfl
  | some l => simp only [Option.isSome_some, Bool.not_true, cond_false, h397_is hs hg]
/-! ### Parse -/
theorem E410 : EntOK FT XU 410 (en410 parseV) := ⟨rfl, fun v r h => by
  obtain ⟨l, _⟩ := v
  refine ⟨1, ?_⟩
  have h' : parseV l = some r := h
  show (Option.map (fun p : List UInt8 × Int => (V.tup [V.str p.1, V.int .i64 p.2], ([] : List Blk))) (parseV l)) = _
  rw [h']
  rfl⟩
theorem parseV_is {b : List Nat} (hb : bel 256 b) (hl : b.length ≤ 1000) : parseV (nI b) = U0.prsX b := by
  unfold parseV
  rw [if_pos]
  · congr 1
    unfold nI
    rw [List.map_map]
    exact List.map_id'' (fun x => rfl) b
  · refine ⟨by rw [nI_len]; exact hl, ?_⟩
    rw [List.all_eq_true]
    intro x hx
    unfold nI at hx
    obtain ⟨n, hn, rfl⟩ := List.mem_map.1 hx
    have := hb n hn
    simp; omega
theorem layS_bel (s : List UInt8) : bel 256 (layS s) := fun x hx => by
  unfold layS layOf at hx
  obtain ⟨n, _, hn⟩ := List.mem_flatMap.1 hx
  simp at hn; omega
theorem layS_len (s : List UInt8) : (layS s).length = 2 * (uns s).length := by unfold layS; rw [layOf_len]
/-- what is laid is parsed -/
theorem laid_parsed {s : List UInt8} (hs : s.length ≤ 1000) (h : may s = 0) : parseV (nI (layS s)) = some (s, 0) := by
  obtain ⟨l, h1, h2, h3⟩ := may_zero h
  have hl := layS_len s
  have hu := uns_len (s := s)
  rw [parseV_is (layS_bel s) (by omega), U0.prsX, if_neg (by omega)]
  have hge := units_ge l
  have he : encs l = s := encs_of (pos := 0) h1
  have hlay : layS s = layOf (unitsOf l) := by unfold layS; rw [h3]
  rw [hlay] at hl
  rw [h3] at hl
  rw [hlay, prs_lay l _ [] (signs_sc (pos := 0) h1) (by omega), List.nil_append, he, finS_is hs h1, if_neg (by omega)]
/-- what is parsed is laid -/
theorem parsed_laid {b : List Nat} (hb : bel 256 b) (hl : b.length ≤ 600) : ∃ (t : List UInt8) (f : Int), parseV (nI b) = some (t, f) ∧ ((f ≠ 0 ∧ t = []) ∨ (f = 0 ∧ t.length ≤ 1000 ∧ may t = 0 ∧ layS t = b)) := by
  rw [parseV_is hb (by omega)]
  unfold U0.prsX
  by_cases ho : b.length % 2 ≠ 0
  · exact ⟨[], 4, if_pos ho, Or.inl ⟨by decide, rfl⟩⟩
  · rw [if_neg ho]
    rcases prs_back (b.length + 1) b [] hb (by omega) (by omega) with h | ⟨ls, h1, h2, h3⟩
    · exact ⟨[], 3, h, Or.inl ⟨by decide, rfl⟩⟩
    · rw [List.nil_append] at h3
      have hg := signs_encs h1
      have hel := encs_len h1
      have hbl : b.length = 2 * (unitsOf ls).length := by rw [← h2, layOf_len]
      have ht : (encs ls).length ≤ 1000 := by omega
      rw [h3, finS_is ht hg]
      by_cases h64 : 64 < ls.length
      · exact ⟨[], 8, by rw [if_pos h64], Or.inl ⟨by decide, rfl⟩⟩
      · have hm : may (encs ls) = 0 := by unfold may; rw [hg]; simp only; rw [if_neg h64]
        refine ⟨encs ls, 0, by rw [if_neg h64], Or.inr ⟨rfl, ht, hm, ?_⟩⟩
        unfold layS uns
        rw [if_pos hm, hg]
        exact h2
/-! ### alive -/
def h420 (s : List UInt8) (c : Int) := p420 30 s c
theorem E420 : EntOK FT XU 420 (en420 h420) := ok420 fun _ _ _ h => ⟨30, h⟩
def h424 (s : List UInt8) := p424 30 s
theorem E424 : EntOK FT XU 424 (en424 h424) := ok424 fun _ _ h => ⟨30, h⟩
def h421 (s t : List UInt8) := p421 h424 30 s t
theorem E421 : EntOK FT XU 421 (en421 h421) := ok421 h424 E424 fun _ _ _ h => ⟨30, h⟩
def h416 (s t : List UInt8) := p416 h420 h421 0 s t
theorem E416 : EntOK FT XU 416 (en416 h416) := ok416 h420 h421 E420 E421 fun _ _ _ h => ⟨0, h⟩
def h411 (s : List UInt8) := p411 h416 0 s
theorem E411 : EntOK FT XU 411 (en411 h411) := ok411 h416 E416 fun _ _ h => ⟨0, h⟩
def h412 (s : List UInt8) := p412 30 s
theorem E412 : EntOK FT XU 412 (en412 h412) := ok412 fun _ _ h => ⟨30, h⟩
def f408 : Option Bool := some true
theorem al09 : p408 h387 parseV h411 h409 h412 h391 0 = some true := by kernel_rfl
theorem E408 : EntOK FT XU 408 (en408 f408) := ok408 h387 parseV h411 h409 h412 h391 E387 E410 E411 E409 E412 E391 fun r h => ⟨0, by rw [← h]; exact al09⟩
/-! ### the laws -/
theorem L405_is {c408 : D408} {c387 : D387} {c388 : D388} {c392 : D392} {c394 : D394} {c398 : D398} {c409 : D409} {c23 : D23} {c391 : D391} {c393 : D393} (N : Nat) (q : List UInt8 → List Int → Int → List Int → Int → Option Bool) (s : List UInt8) (A : List Int) (x : Int) (B : List Int) (y : Int) (u : List Int) (hu : u.length ≤ 1000) : ∀ d i fuel, i + d = u.length → d < fuel →
    L405_0 c408 c387 c388 c392 c394 c398 c409 c23 c391 c393 N q fuel s A x B y u u ((u.length : Nat) : Int) (i : Int) = q s A x B y := by
  intro d
  induction d with
  | zero =>
    intro i fuel hd hf
    obtain ⟨m, rfl⟩ : ∃ m, fuel = m + 1 := ⟨fuel - 1, by omega⟩
    simp only [L405_0, show ¬ ((i : Int) < ((u.length : Nat) : Int)) by omega, decide_false, cond_false]
  | succ d ih =>
    intro i fuel hd hf
    obtain ⟨m, rfl⟩ : ∃ m, fuel = m + 1 := ⟨fuel - 1, by omega⟩
    have hi : i < u.length := by omega
    simp only [L405_0, show ((i : Int) < ((u.length : Nat) : Int)) by omega, decide_true, cond_true, geti_nat, List.getElem?_eq_getElem hi, bne_self_eq_false, cond_false]
    rw [up1 (by omega)]
    exact ih (i + 1) m (by omega) (by omega)
def f405 (s : List UInt8) : Option Bool := some true
theorem E405 : EntOK FT XU 405 (en405 f405) := ok405 f408 h387 h388 h392 h394 h398 h409 f23 h391 h393 E408 E387 E388 E392 E394 E398 E409 E23 E391 E393 fun s r h => ⟨200, by
  rw [← h]
  unfold f405 p405
  by_cases hs : s.length ≤ 600
  · have h1 := h387_is (s := s) (by omega)
    have h2 := h388_is (s := s) (by omega)
    have h3 := h392_is (s := s) (by omega)
    have h4 := h394_is (s := s) (by omega)
    have h5 := h398_is (s := s) (by omega)
    have h6 := h409_is (s := s) (by omega)
    have h7 := h391_is (s := s) (by omega)
    have h8 := h393_is (s := s) (by omega)
    have hu := uns_len (s := s)
    have hl := layS_len s
    have h9 : f23 (nI (layS s)) (nI (layS s)) = some true := f23_same (by rw [nI_len]; omega)
    have hU : (nI (uns s)).length ≤ 128 := by rw [nI_len]; exact hu
    simp only [show ¬ (((s.length : Nat) : Int) > 600) by omega, decide_false, cond_false, h1, h2, h3, h4, h5, bne_self_eq_false]
    cases hg : signs s with
    | none =>
      simp only [sgn, hg, Bool.not_false, cond_true, cond_false, h6, cntS, show (((0 : Nat) : Int) != 0) = false from rfl]
      refine (L405_is 200 _ _ _ _ _ _ (nI (uns s)) (by omega) (nI (uns s)).length 0 200 (by omega) (by omega)).trans ?_
      simp only [h9, h7, h8, beq_self_eq_true, cond_true]
      rfl
    | some l =>
      simp only [sgn, hg, Bool.not_true, cond_true, cond_false, h6, cntS, nI_len, bne_self_eq_false]
      rw [← nI_len]
      refine (L405_is 200 _ _ _ _ _ _ (nI (uns s)) (by omega) (nI (uns s)).length 0 200 (by omega) (by omega)).trans ?_
      simp only [h9, h7, h8, beq_self_eq_true, cond_true]
      rfl
  · simp only [show (((s.length : Nat) : Int) > 600) by omega, decide_true, cond_true]
    rfl⟩
theorem law405 (z0 : List UInt8) (h0 : okD .str z0) : Ans FT XU 405 (encL [Sh.str] (z0, ())) [] (.bool true) [] := E405.2 (z0, ()) true rfl
def okB (a : List Int) : Prop := ∀ x ∈ a, (Lit.int .u8 x).wf = true
open Classical in
noncomputable def f406 (s : List UInt8) (a : List Int) : Option Bool := if okB a then some true else none
theorem p406_is {c408 : D408} {c387 : D387} {c410 : D410} {c23 : D23} {s : List UInt8} {b B : List Int} {m : Int} {t : List UInt8} {f : Int} (e8 : c408 = some true) (e1 : c387 s = some (B, m)) (e2 : m = 0 → c410 B = some (s, 0)) (e3 : c410 b = some (t, f))
    (e4 : (f ≠ 0 ∧ t = []) ∨ (f = 0 ∧ c387 t = some (b, 0))) (e5 : c23 b b = some true) : p406 c408 c387 c410 c23 0 s b = some true := by
  unfold p406
  by_cases l1 : ((s.length : Nat) : Int) > 600
  · simp only [l1, decide_true, cond_true, e8]
  by_cases l2 : ((b.length : Nat) : Int) > 600
  · simp only [l1, l2, decide_true, decide_false, cond_true, cond_false, e8]
  simp only [l1, l2, decide_false, cond_false, e1]
  by_cases hm : m = 0
  · subst hm
    simp only [beq_self_eq_true, cond_true, e2 rfl, Bool.not_true, cond_false, bne_self_eq_false, e3]
    rcases e4 with ⟨h1, h2⟩ | ⟨h1, h2⟩
    · simp only [show (f != 0) = true from bne_iff_ne.2 h1, cond_true, h2, beq_self_eq_true, e8]
    · simp only [h1, bne_self_eq_false, cond_false, h2, beq_self_eq_true, cond_true, e5, e8]
  · simp only [show (m == 0) = false from beq_eq_false_iff_ne.2 hm, cond_false, e3]
    rcases e4 with ⟨h1, h2⟩ | ⟨h1, h2⟩
    · simp only [show (f != 0) = true from bne_iff_ne.2 h1, cond_true, h2, beq_self_eq_true, e8]
    · simp only [h1, bne_self_eq_false, cond_false, h2, beq_self_eq_true, cond_true, e5, e8]
theorem p406_long {c408 : D408} {c387 : D387} {c410 : D410} {c23 : D23} {s : List UInt8} {b : List Int} (e8 : c408 = some true) (h : ¬ (s.length ≤ 600 ∧ b.length ≤ 600)) : p406 c408 c387 c410 c23 0 s b = some true := by
  unfold p406
  by_cases l1 : ((s.length : Nat) : Int) > 600
  · simp only [l1, decide_true, cond_true, e8]
  by_cases l2 : ((b.length : Nat) : Int) > 600
  · simp only [l1, l2, decide_true, decide_false, cond_true, cond_false, e8]
  omega
theorem E406 : EntOK FT XU 406 (en406 f406) := ok406 f408 h387 parseV f23 E408 E387 E410 E23 fun s a r h => ⟨0, by
  unfold f406 at h
  split at h <;> try (cases h; done)
  rename_i hc
  rw [← h]
  obtain ⟨b, rfl, hb⟩ := wf_bel (k := .u8) rfl hc
  have hb' : bel 256 b := hb
  by_cases hl : s.length ≤ 600 ∧ (nI b).length ≤ 600
  · have hbl : b.length ≤ 600 := by have := hl.2; rwa [nI_len] at this
    obtain ⟨t, f, h1, h2⟩ := parsed_laid hb' hbl
    refine p406_is rfl (h387_is (by omega)) (fun hm => laid_parsed (by omega) (by omega)) h1 ?_ (f23_same (by omega))
    rcases h2 with h2 | ⟨h2, h3, h4, h5⟩
    · exact Or.inl h2
    · refine Or.inr ⟨h2, ?_⟩
      rw [h387_is h3, h4, h5]
      rfl
  · exact p406_long rfl hl⟩
theorem law406 (z0 : List UInt8) (z1 : List Int) (h0 : okD .str z0) (h1 : okD (Sh.sl (Sh.int .u8)) z1) : Ans FT XU 406 (encL [Sh.str, Sh.sl (Sh.int .u8)] (z0, (z1, ()))) [] (.bool true) [] := E406.2 (z0, (z1, ())) true (if_pos (fun x hx => h1.2 x hx))
theorem layOf_get : ∀ (u : List Nat) (i n : Nat), u[i]? = some n → (layOf u)[2 * i]? = some (n % 256) ∧ (layOf u)[2 * i + 1]? = some (n / 256 % 256)
  | [], i, n, h => by simp at h
  | m :: u, 0, n, h => by
    simp at h; subst h
    exact ⟨rfl, rfl⟩
  | m :: u, i + 1, n, h => by
    have ih := layOf_get u i n (by simpa using h)
    rw [layOf_cons, show 2 * (i + 1) = 2 * i + 2 by omega]
    exact ih
theorem L407_is {c408 : D408} {c392 : D392} {c409 : D409} {c387 : D387} {c391 : D391} (N : Nat) (q : List Int → Int → Option Bool) (U : List Int) (k : Int) (u : List Nat) (hb : ∀ x ∈ u, x < 65536) (hu : u.length ≤ 1000) : ∀ d i fuel, i + d = u.length → d < fuel →
    L407_0 c408 c392 c409 c387 c391 N q fuel U k (nI (layOf u)) (nI u) ((u.length : Nat) : Int) (i : Int) = q U k := by
  intro d
  induction d with
  | zero =>
    intro i fuel hd hf
    obtain ⟨m, rfl⟩ : ∃ m, fuel = m + 1 := ⟨fuel - 1, by omega⟩
    simp only [L407_0, show ¬ ((i : Int) < ((u.length : Nat) : Int)) by omega, decide_false, cond_false]
  | succ d ih =>
    intro i fuel hd hf
    obtain ⟨m, rfl⟩ : ∃ m, fuel = m + 1 := ⟨fuel - 1, by omega⟩
    have hi : i < u.length := by omega
    have hn := hb u[i] (List.getElem_mem hi)
    have hg := List.getElem?_eq_getElem hi
    obtain ⟨g1, g2⟩ := layOf_get u i _ hg
    generalize u[i] = n at *
    have e2 : imul .i64 (2 : Int) (i : Int) = ((2 * i : Nat) : Int) := muln (a := 2) (by omega)
    have w1 : IntKind.wrap .i64 ((n % 256 : Nat) : Int) = ((n % 256 : Nat) : Int) := wrap_i64 (by omega) (by omega)
    have w2 : IntKind.wrap .i64 ((n / 256 % 256 : Nat) : Int) = ((n / 256 % 256 : Nat) : Int) := wrap_i64 (by omega) (by omega)
    have w3 : IntKind.wrap .i64 ((n : Nat) : Int) = ((n : Nat) : Int) := wrap_i64 (by omega) (by omega)
    have e3 : imul .i64 (256 : Int) ((n / 256 % 256 : Nat) : Int) = ((256 * (n / 256 % 256) : Nat) : Int) := muln (a := 256) (by omega)
    have e4 : iadd .i64 ((n % 256 : Nat) : Int) ((256 * (n / 256 % 256) : Nat) : Int) = ((n : Nat) : Int) := by rw [addn (by omega)]; omega
    simp only [L407_0, show ((i : Int) < ((u.length : Nat) : Int)) by omega, decide_true, cond_true, e2]
    rw [up1 (i := 2 * i) (by omega)]
    simp only [geti_nat, nI_get, hg, g1, g2, Option.map_some, w1, w2, w3, e3, e4, bne_self_eq_false, cond_false]
    rw [up1 (by omega)]
    exact ih (i + 1) m (by omega) (by omega)
theorem units_le (l : List Nat) : (unitsOf l).length ≤ 2 * l.length := unitsOf_len l
def f407 (s : List UInt8) : Option Bool := some true
theorem E407 : EntOK FT XU 407 (en407 f407) := ok407 f408 h392 h409 h387 h391 E408 E392 E409 E387 E391 fun s r h => ⟨200, by
  rw [← h]
  unfold f407 p407
  by_cases hs : s.length ≤ 600
  · have h1 := h387_is (s := s) (by omega)
    have h3 := h392_is (s := s) (by omega)
    have h6 := h409_is (s := s) (by omega)
    have h7 := h391_is (s := s) (by omega)
    have hu := uns_len (s := s)
    have hl := layS_len s
    simp only [show ¬ (((s.length : Nat) : Int) > 600) by omega, decide_false, cond_false, h1, h3, h6]
    by_cases hm : may s = 0
    · obtain ⟨l, k1, k2, k3⟩ := may_zero hm
      have g1 := units_ge l
      have g2 := units_le l
      rw [← k3] at g1 g2
      have hc : cntS s = l.length := by unfold cntS; rw [k1]
      have e2 : imul .i64 (2 : Int) (((uns s).length : Nat) : Int) = ((2 * (uns s).length : Nat) : Int) := muln (a := 2) (by omega)
      have e3 : imul .i64 (2 : Int) ((l.length : Nat) : Int) = ((2 * l.length : Nat) : Int) := muln (a := 2) (by omega)
      simp only [hm, show (((0 : Nat) : Int) != 0) = false from rfl, cond_false, nI_len, hl, e2, bne_self_eq_false, hc]
      refine (L407_is 200 _ _ _ (uns s) uns_bel (by omega) (uns s).length 0 200 (by omega) (by omega)).trans ?_
      simp only [nI_len, e3, show (((uns s).length : Nat) : Int) ≥ ((l.length : Nat) : Int) by omega, show (((uns s).length : Nat) : Int) ≤ ((2 * l.length : Nat) : Int) by omega, show ((l.length : Nat) : Int) ≤ 64 by omega, decide_true, cond_true]
      rfl
    · have hz : uns s = [] := by unfold uns; rw [if_neg hm]
      have hz2 := layS_no hm
      simp only [show (((may s : Nat) : Int) != 0) = true from bne_iff_ne.2 (by omega), cond_true, hz, hz2, nI_len, List.length_nil, show (((0 : Nat) : Int) == 0) = true from rfl, h7, beq_self_eq_true]
      rfl
  · simp only [show (((s.length : Nat) : Int) > 600) by omega, decide_true, cond_true]
    rfl⟩
theorem law407 (z0 : List UInt8) (h0 : okD .str z0) : Ans FT XU 407 (encL [Sh.str] (z0, ())) [] (.bool true) [] := E407.2 (z0, ()) true rfl
end Go.Proofs.YtchoafdpckknmaaDoorE
