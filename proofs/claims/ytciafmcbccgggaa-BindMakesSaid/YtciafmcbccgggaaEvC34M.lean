/- Chapter 34: what is made is the document's. -/
import Derived.Test.YtciafmcbccgggaaEvC34A
namespace Go.Proofs.YtciafmcbccgggaaE
open Go
set_option linter.unusedSimpArgs false
set_option linter.unusedVariables false
set_option maxRecDepth 4000

def h314 (m : Int) (n h s : List Int) := p314 h151 0 m n h s
theorem E314 : EntOK FT XT 314 (en314 h314) := ok314 h151 E151 fun _ _ _ _ _ h => ⟨0, h⟩
theorem h314_is {n h s : List Nat} (hn : n.length = 32) (hh : h.length = 32) (hs : s.length = 32) : h314 2 (nI n) (nI h) (nI s) = some (enK (pk34 (bn 2 n h s))) := by
  have l1 : (nI n).length = 32 := by rw [nI_len, hn]
  have l2 : (nI h).length = 32 := by rw [nI_len, hh]
  have l3 : (nI s).length = 32 := by rw [nI_len, hs]
  have e : h151 2 (nI n) (nI h) (nI s) = some (3, nI ([0, 0, 0, 2] ++ (n ++ (h ++ s)))) := h151_is (m := 2) hn hh hs
  unfold h314 p314
  rw [tk l1, tk l2, tk l3, e]
  simp only [l1, l2, l3, Nat.le_refl, decide_true, cond_true, cond_false, Nat.reduceLeDiff, Nat.reduceAdd, beq_self_eq_true, bne_self_eq_false, Bool.and_self, Bool.not_true, Bool.not_false]
  rfl
def h315 (p : PkI) (u : List Int) := p315 h319 h294 h222 0 p u
theorem E315 : EntOK FT XT 315 (en315 h315) := ok315 h319 h294 h222 E319 E294 E222 fun _ _ _ h => ⟨0, h⟩
theorem p315_is {c319 : D319} {c294 : D294} {c222 : D222} {p : PkI} {u k S : List Int} {b : List Int × Int} (hu : u.length = 32) (hk : k.length = 32) (hS : S.length = 32) (F1 : c319 p = some b) (F2 : c294 u = some k) (F3 : c222 k b.1 = some S) : p315 c319 c294 c222 0 p u = some S := by
  unfold p315
  rw [show (p.1, (p.2.1, (p.2.2.1, p.2.2.2))) = p from rfl, F1]
  simp only []
  rw [tk hu, F2]
  simp only []
  rw [fill (hk.trans (by decide)), tk hk, F3]
  simp only []
  rw [fill (hS.trans (by decide)), tk hS]
  simp only [hu, hk, hS, Nat.le_refl, decide_true, cond_true, cond_false, Nat.reduceLeDiff, Nat.reduceAdd, beq_self_eq_true, bne_self_eq_false, Bool.and_self, Bool.not_true, Bool.not_false]
theorem h315_is {u n h : List Nat} (hu : u.length = 32) (hn : n.length = 32) (hh : h.length = 32) (bu : bel 256 u) (b1 : bel 256 n) (b2 : bel 256 h) : h315 (enK (pk34 (bn 2 n h z32))) (nI u) = some (nI (sl34 u n h)) := by
  have hg := gK34 (bn_len (m := 2) hn hh z32_len) (bn_bel (by decide) b1 b2 z32_bel)
  refine p315_is (by rw [nI_len, hu]) (by rw [nI_len, bnd13_len]) (by rw [nI_len, sl34_len]) (h319_is hg) (h294_is hu bu) ?_
  rw [show sl34 u n h = hm (bnd13 u) (lay18 (pk34 (bn 2 n h z32))).1 from by unfold sl34 sealed; rw [zer_bn hn hh]]
  exact h222_is (bnd13_bel u) (by rw [bnd13_len]; decide) (lay18_bel hg) (Nat.le_trans lay18_len (by decide))
def h304 (u n h : List Int) := p304 h314 h315 0 u n h
theorem E304 : EntOK FT XT 304 (en304 h304) := ok304 h314 h315 E314 E315 fun _ _ _ _ h => ⟨0, h⟩
theorem p304_is {c314 : D314} {c315 : D315} {u n h S : List Int} {p q : PkI} (hu : u.length = 32) (hn : n.length = 32) (hh : h.length = 32) (F1 : c314 2 n h [(0 : Int), 0, 0, 0, 0, 0, 0, 0, 0, 0, 0, 0, 0, 0, 0, 0, 0, 0, 0, 0, 0, 0, 0, 0, 0, 0, 0, 0, 0, 0, 0, 0] = some p) (F2 : c315 p u = some S) (F3 : c314 2 n h S = some q) : p304 c314 c315 0 u n h = some q := by
  unfold p304
  rw [tk hn, tk hh, F1]
  simp only []
  rw [show (p.1, (p.2.1, (p.2.2.1, p.2.2.2))) = p from rfl, tk hu, F2]
  simp only []
  rw [F3]
  simp only [hu, hn, hh, Nat.le_refl, decide_true, cond_true, cond_false, Nat.reduceLeDiff, Nat.reduceAdd, beq_self_eq_true, bne_self_eq_false, Bool.and_self, Bool.not_true, Bool.not_false]
theorem h304_is {u n h : List Nat} (hu : u.length = 32) (hn : n.length = 32) (hh : h.length = 32) (bu : bel 256 u) (b1 : bel 256 n) (b2 : bel 256 h) : h304 (nI u) (nI n) (nI h) = some (enK (pk34 (cn34 u n h))) :=
  p304_is (by rw [nI_len, hu]) (by rw [nI_len, hn]) (by rw [nI_len, hh]) (h314_is hn hh z32_len) (h315_is hu hn hh bu b1 b2) (h314_is hn hh (sl34_len u n h))
def h306 (n : List Int) := p306 h152 0 n
theorem E306 : EntOK FT XT 306 (en306 h306) := ok306 h152 E152 fun _ _ h => ⟨0, h⟩
theorem h306_is {n : List Nat} (hn : n.length = 32) : h306 (nI n) = some (enK (pa34 n)) := by
  have l1 : (nI n).length = 32 := by rw [nI_len, hn]
  have e : h152 2 (nI n) = some (4, nI ([0, 0, 0, 2] ++ n)) := h152_is (m := 2) hn
  unfold h306 p306
  rw [tk l1, e]
  simp only [l1, Nat.le_refl, decide_true, cond_true, cond_false, Nat.reduceLeDiff, Nat.reduceAdd, beq_self_eq_true, bne_self_eq_false, Bool.and_self, Bool.not_true, Bool.not_false]
  rfl
theorem p288_is {c297 : D297} {c304 : D304} {c303 : D303} {c302 : D302} {c305 : D305} {c306 : D306} {c301 : D301} {a : List Int} {p q : PkI} (ha : a.length = 96)
    (F1 : c297 (List.take 32 (List.drop 0 a)) (List.take 32 (List.drop 32 a)) (List.take 32 (List.drop 64 a)) = some p)
    (F2 : c304 (List.take 32 (List.drop 0 a)) (List.take 32 (List.drop 32 a)) (List.take 32 (List.drop 64 a)) = some p)
    (F3 : c303 p = some p) (F4 : c302 p p = some true) (F5 : c305 (List.take 32 (List.drop 32 a)) = some q) (F6 : c306 (List.take 32 (List.drop 32 a)) = some q) (F7 : c303 q = some q) (F8 : c302 q q = some true) (F9 : c301 = some true) : p288 c297 c304 c303 c302 c305 c306 c301 0 a = some true := by
  unfold p288
  rw [show decide (32 ≤ a.length) = true from decide_eq_true (by omega), show decide (64 ≤ a.length) = true from decide_eq_true (by omega), show decide (96 ≤ a.length) = true from decide_eq_true (by omega), F1, F2]
  simp only [cond_true]
  rw [show (p.1, (p.2.1, (p.2.2.1, p.2.2.2))) = p from rfl, F3]
  simp only []
  rw [show (p.1, (p.2.1, (p.2.2.1, p.2.2.2))) = p from rfl, F4, F5, F6]
  simp only [cond_true]
  rw [show (q.1, (q.2.1, (q.2.2.1, q.2.2.2))) = q from rfl, F7]
  simp only []
  rw [show (q.1, (q.2.1, (q.2.2.1, q.2.2.2))) = q from rfl, F8]
  simp only [F9, cond_true]
theorem nI_part {x : List Nat} (k : Nat) : List.take 32 (List.drop k (nI x)) = nI ((x.drop k).take 32) := by rw [nI_drop, nI_take]
theorem part_len {x : List Nat} (h : x.length = 96) {k : Nat} (hk : k ≤ 64) : ((x.drop k).take 32).length = 32 := by
  rw [List.length_take, List.length_drop, h]; omega
def f288 (a : List Int) := p288 h297 h304 h303 h302 h305 h306 f301 0 a
theorem E288 : EntOK FT XT 288 (en288 f288) := ok288 h297 h304 h303 h302 h305 h306 f301 E297 E304 E303 E302 E305 E306 E301 fun _ _ h => ⟨0, h⟩
theorem f288_is {x : List Nat} (hx : x.length = 96) (bx : bel 256 x) : f288 (nI x) = some true := by
  have pl := fun k hk => part_len hx (k := k) hk
  have pb : ∀ k, bel 256 ((x.drop k).take 32) := fun k => bel_take (bel_drop bx)
  have l0 := pl 0 (by decide)
  have l1 := pl 32 (by decide)
  have l2 := pl 64 (by decide)
  have ls := sl34_len ((x.drop 0).take 32) ((x.drop 32).take 32) ((x.drop 64).take 32)
  have bs := sl34_bel ((x.drop 0).take 32) ((x.drop 32).take 32) ((x.drop 64).take 32)
  have g1 : gK (pk34 (cn34 ((x.drop 0).take 32) ((x.drop 32).take 32) ((x.drop 64).take 32))) := gK34 (bn_len l1 l2 ls) (bn_bel (by decide) (pb 32) (pb 64) bs)
  have g2 : gK (pa34 ((x.drop 32).take 32)) := gA34 l1 (pb 32)
  refine p288_is (p := enK (pk34 (cn34 ((x.drop 0).take 32) ((x.drop 32).take 32) ((x.drop 64).take 32)))) (q := enK (pa34 ((x.drop 32).take 32))) (by rw [nI_len, hx]) ?_ ?_ (h303_is g1.2.2.1) ?_ ?_ ?_ (h303_is g2.2.2.1) ?_ rfl
  · rw [nI_part, nI_part, nI_part]; exact h297_is l0 l1 l2 (pb 0) (pb 32) (pb 64)
  · rw [nI_part, nI_part, nI_part]; exact h304_is l0 l1 l2 (pb 0) (pb 32) (pb 64)
  · rw [h302_is g1 g1, beq_self_eq_true]
  · rw [nI_part]; exact h305_is l1
  · rw [nI_part]; exact h306_is l1
  · rw [h302_is g2 g2, beq_self_eq_true]
theorem law288 (z0 : List Int) (h0 : ∀ x ∈ z0, (Lit.int .u8 x).wf = true) (hs0 : z0.length = 96) : Ans FT XT 288 (encL [Sh.ar .u8] (z0, ())) [] (.bool true) [] := by
  obtain ⟨x, rfl, hx⟩ := wf8s h0
  rw [nI_len] at hs0
  exact E288.2 (nI x, ()) true (f288_is hs0 hx)
end Go.Proofs.YtciafmcbccgggaaE
