/- Chapter 10: any password's digest. -/
import Derived.Test.YtdlmhclopdkhcaaDoorEvzM3
import Derived.Test.YtdlmhclopdkhcaaDoorEvUc
import Derived.Test.YtdlmhclopdkhcaaDoorEvOp
import Derived.KernelRfl
namespace Go.Proofs.YtdlmhclopdkhcaaDoorE
open Go
set_option linter.unusedSimpArgs false
set_option linter.unusedVariables false
set_option maxRecDepth 4000
theorem fillT {r z : List Int} (h : r.length = z.length) : ([] ++ r) ++ List.drop (0 + r.length) z = r := by
  rw [List.nil_append, Nat.zero_add, h, List.drop_length, List.append_nil]
theorem tkT {r : List Int} {n : Nat} (h : r.length = n) : List.take n (List.drop 0 r) = r := by
  rw [List.drop_zero, ← h, List.take_length]
theorem tkA0 {A : List Int} {n : Nat} (h : A.length = n) : List.take n A = A := by rw [← h, List.take_length]
theorem m4dig_bel (b : List Nat) : bel 256 (m4dig b) := fun x hx => by
  unfold m4dig S4.bytes at hx
  obtain ⟨n, _, hn⟩ := List.mem_flatMap.1 hx
  simp [le4] at hn; omega
abbrev cpS : List UInt8 := ([(99 : UInt8), (108 : UInt8), (105 : UInt8), (101 : UInt8), (110 : UInt8), (116 : UInt8), (80 : UInt8), (97 : UInt8), (115 : UInt8), (115 : UInt8)] : List UInt8)
def cpB : List Nat := [99, 0, 108, 0, 105, 0, 101, 0, 110, 0, 116, 0, 80, 0, 97, 0, 115, 0, 115, 0]
def dgB : List Nat := [68, 235, 186, 141, 83, 18, 184, 214, 17, 71, 68, 17, 245, 105, 137, 174]
def twB : List Nat := [65, 192, 12, 88, 75, 210, 217, 28, 64, 23, 162, 161, 47, 165, 159, 63]
theorem h387_cp : h387 cpS = some (nI cpB, 0) := by kernel_rfl
theorem m4_cp : m4dig cpB = dgB := by kernel_rfl
theorem m4_dg : m4dig dgB = twB := by kernel_rfl
theorem cpB_bel : bel 256 cpB := by unfold cpB; intro x hx; simp at hx; omega
theorem dgB_bel : bel 256 dgB := by unfold dgB; intro x hx; simp at hx; omega
theorem h181_one {b : List Nat} (hb : bel 256 b) (hl : b.length ≤ 6000) : h181 [nI b] = some (nI (m4dig b)) := h181_is (b := b) (by simp) (by simp) hb hl
def h370 (s : List UInt8) := p370 h387 h181 0 s
theorem E370 : EntOK FT XT 370 (en370 h370) := ok370 h387 h181 E387 E181 fun _ _ h => ⟨0, h⟩
theorem h370_cp : h370 cpS = some (nI dgB, 0) := by
  have e : h181 [nI cpB] = some (nI dgB) := by rw [h181_one cpB_bel (by decide), m4_cp]
  unfold h370 p370
  rw [h387_cp]
  simp only [bne_self_eq_false, cond_false]
  rw [e]
  rfl
def h372 (h : List Int) := p372 h181 0 h
theorem E372 : EntOK FT XT 372 (en372 h372) := ok372 h181 E181 fun _ _ h => ⟨0, h⟩
def h373 (h : List Int) := p373 h182 0 h
theorem E373 : EntOK FT XT 373 (en373 h373) := ok373 h182 E182 fun _ _ h => ⟨0, h⟩
abbrev z16 : List Int := [(0 : Int), 0, 0, 0, 0, 0, 0, 0, 0, 0, 0, 0, 0, 0, 0, 0]
theorem z16_len : z16.length = 16 := rfl
theorem fillU {r : List Int} (h : r.length = 16) : ([] ++ r) ++ List.drop (0 + 16) [(0 : Int), 0, 0, 0, 0, 0, 0, 0, 0, 0, 0, 0, 0, 0, 0, 0] = r := by
  have := fillT (h.trans z16_len.symm)
  rw [h] at this; exact this
theorem h372_is {h : List Nat} (hb : bel 256 h) (hl : h.length = 16) : h372 (nI h) = some (nI (m4dig h)) := by
  have hl' : (nI h).length = 16 := by rw [nI_len, hl]
  have hm : (nI (m4dig h)).length = 16 := by rw [nI_len, m4dig_len]
  have e := h181_one hb (by omega)
  unfold h372 p372
  rw [tkT hl', e]
  generalize nI (m4dig h) = r at hm
  simp only [hl', fillU hm, hm, tkT hm, beq_self_eq_true, Nat.le_refl, decide_true, cond_true, show decide (0 + 16 ≤ 16) = true from rfl]
theorem h373_is {h : List Nat} (hb : bel 256 h) (hl : h.length = 16) : h373 (nI h) = some (nI (m4dig h)) := by
  have hl' : (nI h).length = 16 := by rw [nI_len, hl]
  have hm : (nI (m4dig h)).length = 16 := by rw [nI_len, m4dig_len]
  have e := h182_is hb (by omega)
  unfold h373 p373
  rw [tkT hl', e]
  generalize nI (m4dig h) = r at hm
  simp only [hl', fillU hm, hm, tkT hm, beq_self_eq_true, Nat.le_refl, decide_true, cond_true, show decide (0 + 16 ≤ 16) = true from rfl]
def f369 : Option Bool := some true
theorem al10 : p369 h370 h372 0 = some true := by
  have e1 : h370 ([(99 : UInt8), (108 : UInt8), (105 : UInt8), (101 : UInt8), (110 : UInt8), (116 : UInt8), (80 : UInt8), (97 : UInt8), (115 : UInt8), (115 : UInt8)] : List UInt8) = some (nI dgB, 0) := h370_cp
  have e2 : h372 (nI dgB) = some (nI twB) := by rw [h372_is dgB_bel rfl, m4_dg]
  unfold p369
  rw [e1]
  simp only []
  rw [fillT (show (nI dgB).length = ([(0 : Int), 0, 0, 0, 0, 0, 0, 0, 0, 0, 0, 0, 0, 0, 0, 0] : List Int).length from rfl), tkT (show (nI dgB).length = 16 from rfl), e2]
  rfl
theorem E369 : EntOK FT XT 369 (en369 f369) := ok369 h370 h372 E370 E372 fun r h => ⟨0, by rw [← h]; exact al10⟩
/-! ### any password -/
theorem layS_bel (s : List UInt8) : bel 256 (layS s) := fun x hx => by
  unfold layS layOf at hx
  obtain ⟨n, _, hn⟩ := List.mem_flatMap.1 hx
  simp at hn; omega
theorem layS_len (s : List UInt8) : (layS s).length ≤ 256 := by
  have := uns_len (s := s)
  unfold layS; rw [layOf_len]; omega
def pd (s : List UInt8) : List Int := if may s = 0 then nI (m4dig (layS s)) else z16
theorem pd_len (s : List UInt8) : (pd s).length = 16 := by
  unfold pd; split
  · rw [nI_len, m4dig_len]
  · rfl
theorem h370_is {s : List UInt8} (hs : s.length ≤ 1000) : h370 s = some (pd s, ((may s : Nat) : Int)) := by
  have hl := layS_len s
  have hm : (nI (m4dig (layS s))).length = 16 := by rw [nI_len, m4dig_len]
  unfold h370 p370 pd
  rw [h387_is hs]
  by_cases h : may s = 0
  · simp only [h, show (((0 : Nat) : Int) != 0) = false from rfl, cond_false, if_true]
    rw [h181_one (layS_bel s) (by omega)]
    generalize nI (m4dig (layS s)) = r at hm
    simp only [fillU hm, hm, tkT hm, beq_self_eq_true, Nat.le_refl, decide_true, cond_true, show decide (0 + 16 ≤ 16) = true from rfl]
    rfl
  · simp only [show (((may s : Nat) : Int) != 0) = true from bne_iff_ne.2 (by omega), cond_true, h, if_false]
def h371 (s : List UInt8) := p371 h388 h182 0 s
theorem E371 : EntOK FT XT 371 (en371 h371) := ok371 h388 h182 E388 E182 fun _ _ h => ⟨0, h⟩
theorem h371_is {s : List UInt8} (hs : s.length ≤ 1000) : h371 s = some (pd s, ((may s : Nat) : Int)) := by
  have hl := layS_len s
  have hm : (nI (m4dig (layS s))).length = 16 := by rw [nI_len, m4dig_len]
  unfold h371 p371 pd
  rw [h388_is hs]
  by_cases h : may s = 0
  · simp only [h, show (((0 : Nat) : Int) != 0) = false from rfl, cond_false, if_true]
    rw [h182_is (layS_bel s) (by omega)]
    generalize nI (m4dig (layS s)) = r at hm
    simp only [fillU hm, hm, tkT hm, beq_self_eq_true, Nat.le_refl, decide_true, cond_true, show decide (0 + 16 ≤ 16) = true from rfl]
    rfl
  · simp only [show (((may s : Nat) : Int) != 0) = true from bne_iff_ne.2 (by omega), cond_true, h, if_false]
theorem p364_is {c369 : D369} {c370 : D370} {c371 : D371} {c372 : D372} {c373 : D373} {s : List UInt8} {z D D2 : List Int} {e : Int} (hs : s.length ≤ 600) (hz : z.length = 16) (hD : D.length = 16) (hD2 : D2.length = 16)
    (e1 : c370 s = some (D, e)) (e2 : c371 s = some (D, e)) (e3 : c372 z = some D2) (e4 : c373 z = some D2) (e5 : c369 = some true) : p364 c369 c370 c371 c372 c373 0 s z = some true := by
  unfold p364
  simp only [show ¬ (((s.length : Nat) : Int) > 600) by omega, decide_false, cond_false, e1, e2, fillU hD, hD, hz, hD2, tkT hD, tkT hz, tkA0 hD, tkA0 hz, e3, e4, e5, beq_self_eq_true, Nat.le_refl, decide_true, cond_true, Bool.and_self, show decide (0 + 16 ≤ 16) = true from rfl]
theorem p364_long {c369 : D369} {c370 : D370} {c371 : D371} {c372 : D372} {c373 : D373} {s : List UInt8} {z : List Int} (hs : 600 < s.length) (e5 : c369 = some true) : p364 c369 c370 c371 c372 c373 0 s z = some true := by
  unfold p364
  simp only [show (((s.length : Nat) : Int) > 600) by omega, decide_true, cond_true, e5]
def okA (n : Nat) (a : List Int) : Prop := a.length = n ∧ ∀ x ∈ a, (Lit.int .u8 x).wf = true
theorem okA_is {n : Nat} {a : List Int} (h : okA n a) : ∃ r : List Nat, a = nI r ∧ bel 256 r ∧ r.length = n := by
  obtain ⟨h1, h2⟩ := h
  obtain ⟨r, rfl, hr⟩ := wf_bel (k := .u8) rfl h2
  exact ⟨r, rfl, hr, by rw [nI_len] at h1; exact h1⟩
open Classical in
noncomputable def f364 (s : List UInt8) (a : List Int) : Option Bool := if okA 16 a then some true else none
theorem E364 : EntOK FT XT 364 (en364 f364) := ok364 f369 h370 h371 h372 h373 E369 E370 E371 E372 E373 fun s a r h => ⟨0, by
  unfold f364 at h
  split at h <;> try (cases h; done)
  rename_i hc
  rw [← h]
  obtain ⟨x, rfl, hx, hxl⟩ := okA_is hc
  by_cases hs : s.length ≤ 600
  · exact p364_is hs (by rw [nI_len, hxl]) (pd_len s) (by rw [nI_len, m4dig_len]) (h370_is (by omega)) (h371_is (by omega)) (h372_is hx hxl) (h373_is hx hxl) rfl
  · exact p364_long (by omega) rfl⟩
theorem law364 (z0 : List UInt8) (z1 : List Int) (h0 : okD .str z0) (h1 : ∀ x ∈ z1, (Lit.int .u8 x).wf = true) (hs1 : z1.length = 16) :
    Ans FT XT 364 (encL [Sh.str, Sh.ar .u8] (z0, (z1, ()))) [] (.bool true) [] :=
  E364.2 (z0, (z1, ())) true (if_pos ⟨hs1, h1⟩)
end Go.Proofs.YtdlmhclopdkhcaaDoorE
