/- Texts: the document's signs, units and bytes; the program's units and bytes. -/
import Derived.Test.YtchoafdpckknmaaDoorEvU9
import Derived.KernelRfl
namespace Go.Proofs.YtchoafdpckknmaaDoorE
open Go
set_option linter.unusedSimpArgs false
set_option linter.unusedVariables false
set_option maxRecDepth 4000
theorem nI_snoc (l : List Nat) (x : Nat) : nI l ++ [(x : Int)] = nI (l ++ [x]) := nI_app l [x]
theorem nI_snoc2 (l : List Nat) (x y : Nat) : nI l ++ [(x : Int), (y : Int)] = nI (l ++ [x, y]) := nI_app l [x, y]
/-! ### the document's signs -/
theorem L398_is (N : Nat) (q : Nat → List Int → Option ((List Int) × Bool)) (s : List UInt8) (hs : s.length ≤ 1000) : ∀ (fuel pos : Nat) (acc : List Nat), pos ≤ s.length → s.length - pos < fuel → acc.length ≤ pos →
    L398_0 h402 N q fuel s acc.length (pos : Int) (nI acc) = (match signs (s.drop pos) with | some l => q (acc ++ l).length (nI (acc ++ l)) | none => some ([], false)) := by
  intro fuel
  induction fuel with
  | zero => intro pos acc h1 h2 h3; omega
  | succ m ih =>
    intro pos acc h1 h2 h3
    by_cases hp : pos < s.length
    · simp only [L398_0, show ((pos : Int) < ((s.length : Nat) : Int)) by omega, decide_true, cond_true, p402_is hp hs, dI]
      rw [signs_at hp]
      cases hd : dec1 (s.drop pos) with
      | none => rfl
      | some p =>
        obtain ⟨n, w⟩ := p
        have hw := dec1_some hd
        rw [List.length_drop] at hw
        have e := ih (pos + w) (acc ++ [n]) (by omega) (by omega) (by rw [List.length_append]; simp; omega)
        rw [List.length_append] at e
        simp only [List.length_cons, List.length_nil] at e
        simp only [show (((w : Nat) : Int) == 0) = false from beq_eq_false_iff_ne.2 (by omega), cond_false, nI_len, Nat.mul_one, beq_self_eq_true, Bool.true_and, show (acc.length + 1) * 8 ≤ 1099511627776 by omega, show acc.length + 1 ≤ 1099511627776 by omega, decide_true, Bool.and_self, cond_true]
        rw [addn (by omega), nI_snoc, e]
        cases signs (s.drop (pos + w)) with
        | none => rfl
        | some l => simp
    · simp only [L398_0, show ¬ ((pos : Int) < ((s.length : Nat) : Int)) by omega, decide_false, cond_false, signs_end (s := s) (pos := pos) (by omega), List.append_nil]
def h398 (s : List UInt8) := p398 h402 1200 s
theorem E398 : EntOK FT XU 398 (en398 h398) := ok398 h402 E402 fun _ _ h => ⟨1200, h⟩
def sgn (s : List UInt8) : (List Int) × Bool := match signs s with | some l => (nI l, true) | none => ([], false)
theorem h398_is {s : List UInt8} (hs : s.length ≤ 1000) : h398 s = some (sgn s) := by
  unfold h398 p398 sgn
  have e := L398_is 1200 (fun (y6 : Nat) (y7 : List Int) => bif (decide ((0 + (y6 * 1)) ≤ (List.length y7))) then some ((List.take y6 (List.drop 0 y7)), true) else none) s hs 1200 0 [] (by omega) (by omega) (by simp)
  refine e.trans ?_
  rw [List.drop_zero]
  cases signs s with
  | none => rfl
  | some l =>
    simp only [List.nil_append, Nat.zero_add, Nat.mul_one, nI_len, Nat.le_refl, decide_true, cond_true, List.drop_zero]
    rw [List.take_of_length_le (by rw [nI_len]; exact Nat.le_refl _)]
def may (s : List UInt8) : Nat := match signs s with | some l => if 64 < l.length then 8 else 0 | none => 3
def h393 (s : List UInt8) := p393 h398 0 s
theorem E393 : EntOK FT XU 393 (en393 h393) := ok393 h398 E398 fun _ _ h => ⟨0, h⟩
theorem h393_is {s : List UInt8} (hs : s.length ≤ 1000) : h393 s = some ((may s : Nat) : Int) := by
  unfold h393 p393 may
  rw [h398_is hs]
  unfold sgn
  cases signs s with
  | none => rfl
  | some l =>
    simp only [Bool.not_true, cond_false, nI_len]
    by_cases h : 64 < l.length
    · simp only [show ((l.length : Nat) : Int) > 64 by omega, decide_true, cond_true, h, if_true]; rfl
    · simp only [show ¬ (((l.length : Nat) : Int) > 64) by omega, decide_false, cond_false, h, if_false]; rfl
/-! ### the document's units -/
theorem q1023 {n : Nat} (h : n ≤ 1114111) : (n - 65536) / 1024 ≤ 1023 := Nat.le_of_lt_succ (Nat.div_lt_of_lt_mul (by omega))
theorem L394_is {c393 : D393} {c398 : D398} (N : Nat) (q : Nat → List Int → Option (List Int)) (ls : List Nat) (hb : ∀ x ∈ ls, x ≤ 1114111) (hl : ls.length ≤ 1000) : ∀ d i fuel (acc : List Nat), i + d = ls.length → d < fuel → acc.length ≤ 2 * i →
    L394_0 c393 c398 N q fuel (nI ls) acc.length (i : Int) (nI acc) = q (acc ++ unitsOf (ls.drop i)).length (nI (acc ++ unitsOf (ls.drop i))) := by
  intro d
  induction d with
  | zero =>
    intro i fuel acc hd hf ha
    obtain ⟨m, rfl⟩ : ∃ m, fuel = m + 1 := ⟨fuel - 1, by omega⟩
    simp only [L394_0, nI_len, show ¬ ((i : Int) < ((ls.length : Nat) : Int)) by omega, decide_false, cond_false]
    rw [List.drop_of_length_le (by omega), show unitsOf [] = [] from rfl, List.append_nil]
  | succ d ih =>
    intro i fuel acc hd hf ha
    obtain ⟨m, rfl⟩ : ∃ m, fuel = m + 1 := ⟨fuel - 1, by omega⟩
    have hi : i < ls.length := by omega
    have hx := hb ls[i] (List.getElem_mem hi)
    have hg : (nI ls)[i]? = some ((ls[i] : Nat) : Int) := by rw [nI_get, List.getElem?_eq_getElem hi]; rfl
    rw [List.drop_eq_getElem_cons hi, unitsOf_cons]
    generalize ls[i] = n at *
    by_cases h : n < 65536
    · have e := ih (i + 1) m (acc ++ [n]) (by omega) (by omega) (by rw [List.length_append]; simp; omega)
      rw [List.length_append] at e
      simp only [List.length_cons, List.length_nil] at e
      simp only [L394_0, nI_len, show ((i : Int) < ((ls.length : Nat) : Int)) by omega, decide_true, cond_true, geti_nat, hg, show ((n : Nat) : Int) < 65536 by omega, Nat.mul_one, beq_self_eq_true, Bool.true_and, show (acc.length + 1) * 2 ≤ 1099511627776 by omega, show acc.length + 1 ≤ 1099511627776 by omega, Bool.and_self, w16n h, nI_snoc, h, if_true]
      rw [up1 (by omega), e]
      simp
    · have e := ih (i + 1) m (acc ++ [55296 + (n - 65536) / 1024, 56320 + (n - 65536) % 1024]) (by omega) (by omega) (by rw [List.length_append]; simp; omega)
      rw [List.length_append] at e
      simp only [List.length_cons, List.length_nil] at e
      have e1 : isub .i64 ((n : Nat) : Int) (65536 : Int) = ((n - 65536 : Nat) : Int) := subn (b := 65536) (by omega) (by omega)
      have e2 : iquo .i64 ((n - 65536 : Nat) : Int) (1024 : Int) = (((n - 65536) / 1024 : Nat) : Int) := quon (b := 1024) (by omega)
      have e3 : irem ((n - 65536 : Nat) : Int) (1024 : Int) = (((n - 65536) % 1024 : Nat) : Int) := irem_n (n - 65536) 1024
      have e4 : iadd .i64 (55296 : Int) (((n - 65536) / 1024 : Nat) : Int) = ((55296 + (n - 65536) / 1024 : Nat) : Int) := addn (a := 55296) (by omega)
      have e5 : iadd .i64 (56320 : Int) (((n - 65536) % 1024 : Nat) : Int) = ((56320 + (n - 65536) % 1024 : Nat) : Int) := addn (a := 56320) (by omega)
      have k1 : (n - 65536) / 1024 ≤ 1023 := q1023 hx
      have k2 : (n - 65536) % 1024 ≤ 1023 := Nat.le_of_lt_succ (Nat.mod_lt _ (by decide))
      have lt16 : ∀ a b : Nat, a ≤ 56320 → b ≤ 1023 → a + b < 65536 := fun a b h1 h2 => by omega
      have e6 : IntKind.wrap .u16 ((55296 + (n - 65536) / 1024 : Nat) : Int) = ((55296 + (n - 65536) / 1024 : Nat) : Int) := w16n (lt16 _ _ (by decide) k1)
      have e7 : IntKind.wrap .u16 ((56320 + (n - 65536) % 1024 : Nat) : Int) = ((56320 + (n - 65536) % 1024 : Nat) : Int) := w16n (lt16 _ _ (by decide) k2)
      simp only [L394_0, nI_len, show ((i : Int) < ((ls.length : Nat) : Int)) by omega, decide_true, decide_false, cond_true, cond_false, geti_nat, hg, show ¬ (((n : Nat) : Int) < 65536) by omega, Nat.mul_one, beq_self_eq_true, Bool.true_and, show (acc.length + 2) * 2 ≤ 1099511627776 by omega, show acc.length + 2 ≤ 1099511627776 by omega, Bool.and_self, e1, e2, e3, e4, e5, e6, e7, nI_snoc2, h, if_false]
      rw [up1 (by omega), e]
      simp
theorem signs_bel {s : List UInt8} : ∀ {l : List Nat} {pos : Nat}, signs (s.drop pos) = some l → ∀ x ∈ l, x ≤ 1114111
  | [], _, _ => by simp
  | n :: l, pos, h => by
    obtain ⟨w, _, h2, _, _, _, h6, _⟩ := signs_step h
    intro x hx
    rcases List.mem_cons.1 hx with rfl | hx
    · exact h6
    · exact signs_bel h2 x hx
/-- a text's units; none where it may not be -/
def uns (s : List UInt8) : List Nat := if may s = 0 then (match signs s with | some l => unitsOf l | none => []) else []
theorem may_zero {s : List UInt8} (h : may s = 0) : ∃ l, signs s = some l ∧ l.length ≤ 64 ∧ uns s = unitsOf l := by
  have h0 := h
  unfold may at h
  cases hg : signs s with
  | none => rw [hg] at h; cases h
  | some l =>
    rw [hg] at h
    simp only at h
    split at h
    · cases h
    · exact ⟨l, rfl, by omega, by unfold uns; rw [if_pos h0, hg]⟩
def h394 (s : List UInt8) := p394 h393 h398 1200 s
theorem E394 : EntOK FT XU 394 (en394 h394) := ok394 h393 h398 E393 E398 fun _ _ h => ⟨1200, h⟩
theorem h394_is {s : List UInt8} (hs : s.length ≤ 1000) : h394 s = some (nI (uns s)) := by
  unfold h394 p394
  rw [h393_is hs]
  by_cases h : may s = 0
  · obtain ⟨l, h1, h2, h3⟩ := may_zero h
    rw [h398_is hs, h3, h]
    unfold sgn
    rw [h1]
    simp only [show (((0 : Nat) : Int) != 0) = false from rfl, cond_false]
    refine (L394_is 1200 _ l (signs_bel (pos := 0) h1) (by omega) l.length 0 1200 [] (by omega) (by omega) (by simp)).trans ?_
    simp only [List.nil_append, Nat.zero_add, Nat.mul_one, nI_len, Nat.le_refl, decide_true, cond_true, List.drop_zero]
    rw [List.take_of_length_le (by rw [nI_len]; exact Nat.le_refl _)]
  · simp only [show (((may s : Nat) : Int) != 0) = true from bne_iff_ne.2 (by omega), cond_true]
    unfold uns
    rw [if_neg h]; rfl
theorem uns_bel {s : List UInt8} : ∀ x ∈ uns s, x < 65536 := by
  by_cases h : may s = 0
  · obtain ⟨l, h1, h2, h3⟩ := may_zero h
    rw [h3]
    have hb := signs_bel (pos := 0) h1
    intro x hx
    unfold unitsOf at hx
    obtain ⟨n, hn, hx⟩ := List.mem_flatMap.1 hx
    have := hb n hn
    split at hx <;> simp at hx <;> omega
  · intro x hx; unfold uns at hx; rw [if_neg h] at hx; simp at hx
theorem uns_len {s : List UInt8} : (uns s).length ≤ 128 := by
  by_cases h : may s = 0
  · obtain ⟨l, h1, h2, h3⟩ := may_zero h
    rw [h3]
    have := unitsOf_len l
    omega
  · unfold uns; rw [if_neg h]; simp
/-! ### the document's bytes -/
theorem quo16 {n : Nat} (h : n < 65536) : iquo .u16 (n : Int) (256 : Int) = ((n / 256 : Nat) : Int) := by
  unfold iquo
  rw [Int.tdiv_eq_ediv_of_nonneg (by omega), show (n : Int) / (256 : Int) = ((n / 256 : Nat) : Int) by norm_cast, w16n (by omega)]
theorem L388_is {c393 : D393} {c394 : D394} (N : Nat) (q : Nat → List Int → Option ((List Int) × Int)) (ls : List Nat) (hb : ∀ x ∈ ls, x < 65536) (hl : ls.length ≤ 1000) : ∀ d i fuel (acc : List Nat), i + d = ls.length → d < fuel → acc.length ≤ 2 * i →
    L388_0 c393 c394 N q fuel acc.length (nI ls) (i : Int) (nI acc) = q (acc ++ layOf (ls.drop i)).length (nI (acc ++ layOf (ls.drop i))) := by
  intro d
  induction d with
  | zero =>
    intro i fuel acc hd hf ha
    obtain ⟨m, rfl⟩ : ∃ m, fuel = m + 1 := ⟨fuel - 1, by omega⟩
    simp only [L388_0, nI_len, show ¬ ((i : Int) < ((ls.length : Nat) : Int)) by omega, decide_false, cond_false]
    rw [List.drop_of_length_le (by omega), show layOf [] = [] from rfl, List.append_nil]
  | succ d ih =>
    intro i fuel acc hd hf ha
    obtain ⟨m, rfl⟩ : ∃ m, fuel = m + 1 := ⟨fuel - 1, by omega⟩
    have hi : i < ls.length := by omega
    have hx := hb ls[i] (List.getElem_mem hi)
    have hg : (nI ls)[i]? = some ((ls[i] : Nat) : Int) := by rw [nI_get, List.getElem?_eq_getElem hi]; rfl
    rw [List.drop_eq_getElem_cons hi, layOf_cons]
    generalize ls[i] = n at *
    have e := ih (i + 1) m (acc ++ [n % 256, n / 256 % 256]) (by omega) (by omega) (by rw [List.length_append]; simp; omega)
    rw [List.length_append] at e
    simp only [List.length_cons, List.length_nil] at e
    have e3 : irem ((n : Nat) : Int) (256 : Int) = ((n % 256 : Nat) : Int) := irem_n n 256
    simp only [L388_0, nI_len, show ((i : Int) < ((ls.length : Nat) : Int)) by omega, decide_true, cond_true, geti_nat, hg, Nat.mul_one, beq_self_eq_true, Bool.true_and, show (acc.length + 2) ≤ 1099511627776 by omega, Bool.and_self, e3, quo16 hx, w8, Nat.mod_mod, nI_snoc2]
    rw [up1 (by omega), e]
    simp
def layS (s : List UInt8) : List Nat := layOf (uns s)
def h388 (s : List UInt8) := p388 h393 h394 1200 s
theorem E388 : EntOK FT XU 388 (en388 h388) := ok388 h393 h394 E393 E394 fun _ _ h => ⟨1200, h⟩
theorem layS_no {s : List UInt8} (h : may s ≠ 0) : layS s = [] := by unfold layS uns; rw [if_neg h]; rfl
theorem h388_is {s : List UInt8} (hs : s.length ≤ 1000) : h388 s = some (nI (layS s), ((may s : Nat) : Int)) := by
  unfold h388 p388
  rw [h393_is hs]
  by_cases h : may s = 0
  · rw [h394_is hs, h]
    simp only [show (((0 : Nat) : Int) != 0) = false from rfl, cond_false]
    have := uns_len (s := s)
    refine (L388_is 1200 _ (uns s) uns_bel (by omega) (uns s).length 0 1200 [] (by omega) (by omega) (by simp)).trans ?_
    simp only [List.nil_append, Nat.zero_add, Nat.mul_one, nI_len, Nat.le_refl, decide_true, cond_true, List.drop_zero]
    rw [List.take_of_length_le (by rw [nI_len]; exact Nat.le_refl _)]
    rfl
  · simp only [show (((may s : Nat) : Int) != 0) = true from bne_iff_ne.2 (by omega), cond_true]
    rw [layS_no h]; rfl
/-! ### the program's units -/
theorem L392_is {c391 : D391} (N : Nat) (q : Nat → List Int → Option (List Int)) (s : List UInt8) (hs : s.length ≤ 1000) : ∀ (l : List Nat) (pos fuel : Nat) (acc : List Nat), signs (s.drop pos) = some l → pos ≤ s.length → l.length < fuel → acc.length ≤ 2 * pos →
    L392_0 c391 N q fuel acc.length (nI acc) s pos = q (acc ++ unitsOf l).length (nI (acc ++ unitsOf l))
  | [], pos, fuel, acc, h, hp, hf, ha => by
    obtain ⟨m, rfl⟩ : ∃ m, fuel = m + 1 := ⟨fuel - 1, by omega⟩
    have := signs_nil h
    simp only [L392_0, show ¬ (pos < s.length) by omega, decide_false, cond_false]
    rw [show unitsOf [] = [] from rfl, List.append_nil]
  | n :: l, pos, fuel, acc, h, hp, hf, ha => by
    obtain ⟨m, rfl⟩ : ∃ m, fuel = m + 1 := ⟨fuel - 1, by omega⟩
    obtain ⟨w, h1, h2, h3, h4, h5, h6, _⟩ := signs_step h
    simp only [List.length_cons] at hf
    rw [unitsOf_cons]
    by_cases hn : n < 65536
    · have e := L392_is (c391 := c391) N q s hs l (pos + w) m (acc ++ [n]) h2 h3 (by omega) (by rw [List.length_append]; simp; omega)
      rw [List.length_append] at e
      simp only [List.length_cons, List.length_nil] at e
      simp only [L392_0, h4, decide_true, cond_true, decode_of h1, nI_len, show ((n : Nat) : Int) < 65536 by omega, Nat.mul_one, beq_self_eq_true, Bool.true_and, show (acc.length + 1) * 2 ≤ 1099511627776 by omega, show acc.length + 1 ≤ 1099511627776 by omega, Bool.and_self, w16n hn, nI_snoc, hn, if_true]
      rw [e]
      simp
    · have e := L392_is (c391 := c391) N q s hs l (pos + w) m (acc ++ [55296 + (n - 65536) / 1024, 56320 + (n - 65536) % 1024]) h2 h3 (by omega) (by rw [List.length_append]; simp; omega)
      rw [List.length_append] at e
      simp only [List.length_cons, List.length_nil] at e
      simp only [L392_0, h4, decide_true, decide_false, cond_true, cond_false, decode_of h1, nI_len, show ¬ (((n : Nat) : Int) < 65536) by omega, Nat.mul_one, beq_self_eq_true, Bool.true_and, show (acc.length + 2) * 2 ≤ 1099511627776 by omega, show acc.length + 2 ≤ 1099511627776 by omega, Bool.and_self, hi_is (show 65536 ≤ n by omega) h6, lo_is (show 65536 ≤ n by omega) h6, nI_snoc2, hn, if_false]
      rw [e]
      simp
/-! ### the program's bytes -/
theorem h19_le2 (x : Int) : h19 x 2 true = some ([lay x 0, lay x 1], 0) := by kernel_rfl
theorem put_le2 (n : Nat) : h19 (n : Int) 2 true = some (nI [n % 256, n / 256 % 256], 0) := by
  rw [h19_le2]
  simp only [lay_is n (show 0 ≤ 8 by omega), lay_is n (show 1 ≤ 8 by omega)]
  simp [nI]
theorem L387_is {c391 : D391} {c392 : D392} (N : Nat) (q : Nat → List Int → Option ((List Int) × Int)) (ls : List Nat) (hb : ∀ x ∈ ls, x < 65536) (hl : ls.length ≤ 1000) : ∀ d i fuel (acc : List Nat), i + d = ls.length → d < fuel → acc.length ≤ 2 * i →
    L387_0 c391 c392 h19 N q fuel acc.length (nI ls) ((ls.length : Nat) : Int) (i : Int) (nI acc) = q (acc ++ layOf (ls.drop i)).length (nI (acc ++ layOf (ls.drop i))) := by
  intro d
  induction d with
  | zero =>
    intro i fuel acc hd hf ha
    obtain ⟨m, rfl⟩ : ∃ m, fuel = m + 1 := ⟨fuel - 1, by omega⟩
    simp only [L387_0, show ¬ ((i : Int) < ((ls.length : Nat) : Int)) by omega, decide_false, cond_false]
    rw [List.drop_of_length_le (by omega), show layOf [] = [] from rfl, List.append_nil]
  | succ d ih =>
    intro i fuel acc hd hf ha
    obtain ⟨m, rfl⟩ : ∃ m, fuel = m + 1 := ⟨fuel - 1, by omega⟩
    have hi : i < ls.length := by omega
    have hx := hb ls[i] (List.getElem_mem hi)
    have hg : (nI ls)[i]? = some ((ls[i] : Nat) : Int) := by rw [nI_get, List.getElem?_eq_getElem hi]; rfl
    rw [List.drop_eq_getElem_cons hi, layOf_cons]
    generalize ls[i] = n at *
    have e := ih (i + 1) m (acc ++ [n % 256, n / 256 % 256]) (by omega) (by omega) (by rw [List.length_append]; simp; omega)
    rw [List.length_append] at e
    simp only [List.length_cons, List.length_nil] at e
    simp only [L387_0, nI_len, show ((i : Int) < ((ls.length : Nat) : Int)) by omega, decide_true, cond_true, geti_nat, hg, w64 (show n < 2 ^ 64 by omega), put_le2, Nat.mul_one, beq_self_eq_true, Bool.true_and, List.length_cons, List.length_nil, show (acc.length + (0 + 1 + 1)) ≤ 1099511627776 by omega, Bool.and_self, nI_app]
    rw [up1 (by omega), e]
    simp
end Go.Proofs.YtchoafdpckknmaaDoorE
