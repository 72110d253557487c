/- Texts: the program's check; its units and bytes. -/
import Derived.Test.YtchoafdpckknmaaDoorEvUb
import Derived.KernelRfl
namespace Go.Proofs.YtchoafdpckknmaaDoorE
open Go
set_option linter.unusedSimpArgs false
set_option linter.unusedVariables false
set_option maxRecDepth 4000
theorem L396_asc (N : Nat) (q : Option Bool) (m : Nat) (b : UInt8) (r : List UInt8) (hb : b.toNat < 128) (hN : r.length < N) : ∃ k, L396_0 h401 N q (m + 1) (b :: r) = L396_0 h401 N q m (r.drop k) ∧ valid (r.drop k) = valid r := by
  generalize hv : b :: r = v
  have g0 : geti v 0 = some b := by rw [← hv]; rfl
  have hd : List.drop 1 v = r := by rw [← hv]; rfl
  have hp : v.length = r.length + 1 := by rw [← hv]; rfl
  have k1 : List.take (v.length - 1) r = r := List.take_of_length_le (by omega)
  by_cases h8 : 8 < r.length
  · have g1 := h401_is (l := r) (by omega)
    by_cases hz : wd r &&& mk80 = 0
    · have v1 := valid_8 (l := r) (by omega) hz
      have hl : (r.drop 8).length = r.length - 8 := List.length_drop
      have k2 : List.take ((r.drop 8).length - 8) (r.drop 16) = r.drop 16 := List.take_of_length_le (by rw [List.length_drop]; omega)
      have k3 : List.take ((r.drop 8).length - 16) (r.drop 24) = r.drop 24 := List.take_of_length_le (by rw [List.length_drop]; omega)
      by_cases h16 : 16 < (r.drop 8).length
      · have g2 := h401_is (l := r.drop 8) (by omega)
        have g3 := h401_is (l := r.drop 16) (by rw [List.length_drop]; omega)
        have w2 := wd_lt (r.drop 8)
        have w3 := wd_lt (r.drop 16)
        by_cases hz2 : (wd (r.drop 8) ||| wd (r.drop 16)) &&& mk80 = 0
        · obtain ⟨z1, z2⟩ := or_asc hz2
          have v2 := valid_8 (l := r.drop 8) (by omega) z1
          have v3 := valid_8 (l := r.drop 16) (by rw [List.length_drop]; omega) z2
          rw [List.drop_drop] at v2 v3
          obtain ⟨k, e1, e2⟩ := L396_1_is N (fun (y11 : List UInt8) => L396_0 h401 N q m y11) N (r.drop 24) (by rw [List.length_drop]; omega)
          refine ⟨24 + k, ?_, ?_⟩
          · simp only [L396_0, show (((v.length : Nat) : Int) > 0) by omega, show ((1 : Int) ≤ ((v.length : Nat) : Int)) by omega, decide_true, cond_true, g0, show ((b.toNat : Nat) : Int) < 128 by omega, tkd, hd, k1, show (((r.length : Nat) : Int) > 8) by omega, g1, wd_zero, hz, show ((8 : Int) ≤ ((r.length : Nat) : Int)) by omega, show ((((r.drop 8).length : Nat) : Int) > 16) by omega, g2, show ((8 : Int) ≤ (((r.drop 8).length : Nat) : Int)) by omega, List.drop_drop, show 8 + 8 = 16 from rfl, k2, g3, or_zero w2 w3, hz2, show ((16 : Int) ≤ (((r.drop 8).length : Nat) : Int)) by omega, show 8 + 16 = 24 from rfl, k3, e1]
          · rw [← List.drop_drop, e2, v3, v2, v1]
        · refine ⟨8, ?_, v1⟩
          simp only [L396_0, show (((v.length : Nat) : Int) > 0) by omega, show ((1 : Int) ≤ ((v.length : Nat) : Int)) by omega, decide_true, cond_true, g0, show ((b.toNat : Nat) : Int) < 128 by omega, tkd, hd, k1, show (((r.length : Nat) : Int) > 8) by omega, g1, wd_zero, hz, show ((8 : Int) ≤ ((r.length : Nat) : Int)) by omega, show ((((r.drop 8).length : Nat) : Int) > 16) by omega, g2, show ((8 : Int) ≤ (((r.drop 8).length : Nat) : Int)) by omega, List.drop_drop, show 8 + 8 = 16 from rfl, k2, g3, or_zero w2 w3, hz2, decide_false, cond_false]
      · refine ⟨8, ?_, v1⟩
        simp only [L396_0, show (((v.length : Nat) : Int) > 0) by omega, show ((1 : Int) ≤ ((v.length : Nat) : Int)) by omega, decide_true, cond_true, g0, show ((b.toNat : Nat) : Int) < 128 by omega, tkd, hd, k1, show (((r.length : Nat) : Int) > 8) by omega, g1, wd_zero, hz, show ((8 : Int) ≤ ((r.length : Nat) : Int)) by omega, show ¬ ((((r.drop 8).length : Nat) : Int) > 16) by omega, decide_false, cond_false]
    · refine ⟨0, ?_, rfl⟩
      simp only [L396_0, show (((v.length : Nat) : Int) > 0) by omega, show ((1 : Int) ≤ ((v.length : Nat) : Int)) by omega, decide_true, cond_true, g0, show ((b.toNat : Nat) : Int) < 128 by omega, tkd, hd, k1, show (((r.length : Nat) : Int) > 8) by omega, g1, wd_zero, hz, decide_false, cond_false, List.drop_zero]
  · refine ⟨0, ?_, rfl⟩
    simp only [L396_0, show (((v.length : Nat) : Int) > 0) by omega, show ((1 : Int) ≤ ((v.length : Nat) : Int)) by omega, decide_true, cond_true, g0, show ((b.toNat : Nat) : Int) < 128 by omega, tkd, hd, k1, show ¬ (((r.length : Nat) : Int) > 8) by omega, decide_false, cond_false, List.drop_zero]
theorem decn {a b : Nat} : decide (((a : Nat) : Int) < ((b : Nat) : Int)) = decide (a < b) := by rw [Bool.eq_iff_iff, decide_eq_true_iff, decide_eq_true_iff]; omega
theorem ctn {a : Nat} : (decide (((a : Nat) : Int) < (128 : Int))) = decide (a < 128) := decn (b := 128)
theorem ct2 {a : Nat} : (decide ((191 : Int) < ((a : Nat) : Int))) = decide (191 < a) := decn (a := 191)
def st2 (b : Nat) (k : List UInt8 → Bool) : List UInt8 → Bool | x :: r2 => inr b x.toNat && k r2 | [] => false
def st3 (b : Nat) (k : List UInt8 → Bool) : List UInt8 → Bool | x :: y :: r2 => inr b x.toNat && ctb y && k r2 | _ => false
def st4 (b : Nat) (k : List UInt8 → Bool) : List UInt8 → Bool | x :: y :: z :: r2 => inr b x.toNat && ctb y && ctb z && k r2 | _ => false
theorem step396 (N : Nat) (q : Option Bool) (m : Nat) (b : UInt8) (r : List UInt8) (hb : ¬ b.toNat < 128) (k : List UInt8 → Bool) (hk : ∀ j, L396_0 h401 N q m (r.drop j) = some (k (r.drop j))) :
    L396_0 h401 N q (m + 1) (b :: r) = some (
      if sz1 b.toNat = 2 then st2 b.toNat k r
      else if sz1 b.toNat = 3 then st3 b.toNat k r
      else if sz1 b.toNat = 4 then st4 b.toNat k r
      else false) := by
  have h8 := UInt8.toNat_lt b
  obtain ⟨x, t, t1, t2, t3, t4, t5, t6, t7, t8⟩ := tab_of (b := b.toNat) (by omega) (by omega)
  generalize hv : b :: r = v
  have g0 : geti v 0 = some b := by rw [← hv]; rfl
  have hp : v.length = r.length + 1 := by rw [← hv]; rfl
  have hd : ∀ j, List.drop (j + 1) v = r.drop j := fun j => by rw [← hv]; rfl
  have g : ∀ j : Nat, v[j + 1]? = r[j]? := fun j => by rw [← hv]; rfl
  simp only [L396_0, show (((v.length : Nat) : Int) > 0) by omega, decide_true, cond_true, g0, show ¬ (((b.toNat : Nat) : Int) < 128) by omega, decide_false, cond_false, show ((0 : Int) ≤ ((b.toNat : Nat) : Int)) by omega, show (((b.toNat : Nat) : Int) < 256) by omega, Bool.and_self, Int.toNat_natCast, t1, t2, t3, t4, t5, t6, beq_self_eq_true, show 0 + 2 ≤ 2 by omega, t8, tkd]
  have d2 : List.drop 2 v = r.drop 1 := hd 1
  have d3 : List.drop 3 v = r.drop 2 := hd 2
  have d4 : List.drop 4 v = r.drop 3 := hd 3
  have i1 : geti v 1 = r[0]? := (geti_nat v 1).trans (g 0)
  have i2 : geti v 2 = r[1]? := (geti_nat v 2).trans (g 1)
  have i3 : geti v 3 = r[2]? := (geti_nat v 3).trans (g 2)
  rw [d2, d3, d4, hk, hk, hk, i1, i2, i3]
  rcases sz_all b.toNat with hs | hs | hs | hs
  · rw [hs]; rfl
  · have ht : t = [((lo1 b.toNat : Nat) : Int), ((hi1 b.toNat : Nat) : Int)] := t7.resolve_left (by omega)
    subst ht
    rw [hs]
    simp only [show (((2 : Nat) : Int) == 2) = true from rfl, cond_true, if_true]
    cases r with
    | nil => simp only [hp, List.length_nil]; rfl
    | cons y r =>
      simp only [show ¬ (((v.length : Nat) : Int) < 2) by simp at hp; omega, show ((2 : Int) ≤ ((v.length : Nat) : Int)) by simp at hp; omega, decide_true, decide_false, cond_false, cond_true, st2, st3, st4, List.getElem?_cons_zero, List.drop_succ_cons, List.drop_zero]
      show (bif decide (((y.toNat : Nat) : Int) < ((lo1 b.toNat : Nat) : Int)) then some false else bif decide (((hi1 b.toNat : Nat) : Int) < ((y.toNat : Nat) : Int)) then some false else some (k r)) = _
      rw [decn, decn]
      unfold inr
      cases decide (y.toNat < lo1 b.toNat) <;> cases decide (hi1 b.toNat < y.toNat) <;> simp
  · have ht : t = [((lo1 b.toNat : Nat) : Int), ((hi1 b.toNat : Nat) : Int)] := t7.resolve_left (by omega)
    subst ht
    rw [hs]
    simp only [show (((3 : Nat) : Int) == 2) = false from rfl, show (((3 : Nat) : Int) == 3) = true from rfl, cond_true, cond_false, if_true, show ¬ (3 = 2) by omega, if_false]
    match r with
    | [] => simp only [hp, List.length_nil]; rfl
    | [_] => simp only [hp, List.length_cons, List.length_nil]; rfl
    | y :: z :: r =>
      simp only [show ¬ (((v.length : Nat) : Int) < 3) by simp at hp; omega, show ((3 : Int) ≤ ((v.length : Nat) : Int)) by simp at hp; omega, decide_true, decide_false, cond_false, cond_true, st2, st3, st4, List.getElem?_cons_zero, List.getElem?_cons_succ, List.drop_succ_cons, List.drop_zero]
      show (bif decide (((y.toNat : Nat) : Int) < ((lo1 b.toNat : Nat) : Int)) then some false else bif decide (((hi1 b.toNat : Nat) : Int) < ((y.toNat : Nat) : Int)) then some false else bif decide (((z.toNat : Nat) : Int) < (128 : Int)) then some false else bif decide ((191 : Int) < ((z.toNat : Nat) : Int)) then some false else some (k r)) = _
      rw [decn, decn, ctn, ct2]
      have hc : ctb z = (!decide (z.toNat < 128) && !decide (191 < z.toNat)) := by rw [Bool.eq_iff_iff, ctb_is]; simp
      rw [hc]
      unfold inr
      cases decide (y.toNat < lo1 b.toNat) <;> cases decide (hi1 b.toNat < y.toNat) <;> cases decide (z.toNat < 128) <;> cases decide (191 < z.toNat) <;> simp
  · have ht : t = [((lo1 b.toNat : Nat) : Int), ((hi1 b.toNat : Nat) : Int)] := t7.resolve_left (by omega)
    subst ht
    rw [hs]
    simp only [show (((4 : Nat) : Int) == 2) = false from rfl, show (((4 : Nat) : Int) == 3) = false from rfl, show (((4 : Nat) : Int) == 4) = true from rfl, cond_true, cond_false, if_true, show ¬ (4 = 2) by omega, show ¬ (4 = 3) by omega, if_false]
    match r with
    | [] => simp only [hp, List.length_nil]; rfl
    | [_] => simp only [hp, List.length_cons, List.length_nil]; rfl
    | [_, _] => simp only [hp, List.length_cons, List.length_nil]; rfl
    | y :: z :: w :: r =>
      simp only [show ¬ (((v.length : Nat) : Int) < 4) by simp at hp; omega, show ((4 : Int) ≤ ((v.length : Nat) : Int)) by simp at hp; omega, decide_true, decide_false, cond_false, cond_true, st2, st3, st4, List.getElem?_cons_zero, List.getElem?_cons_succ, List.drop_succ_cons, List.drop_zero]
      show (bif decide (((y.toNat : Nat) : Int) < ((lo1 b.toNat : Nat) : Int)) then some false else bif decide (((hi1 b.toNat : Nat) : Int) < ((y.toNat : Nat) : Int)) then some false else bif decide (((z.toNat : Nat) : Int) < (128 : Int)) then some false else bif decide ((191 : Int) < ((z.toNat : Nat) : Int)) then some false else bif decide (((w.toNat : Nat) : Int) < (128 : Int)) then some false else bif decide ((191 : Int) < ((w.toNat : Nat) : Int)) then some false else some (k r)) = _
      rw [decn, decn, ctn, ct2, ctn, ct2]
      have hc : ctb z = (!decide (z.toNat < 128) && !decide (191 < z.toNat)) := by rw [Bool.eq_iff_iff, ctb_is]; simp
      have hc2 : ctb w = (!decide (w.toNat < 128) && !decide (191 < w.toNat)) := by rw [Bool.eq_iff_iff, ctb_is]; simp
      rw [hc, hc2]
      unfold inr
      cases decide (y.toNat < lo1 b.toNat) <;> cases decide (hi1 b.toNat < y.toNat) <;> cases decide (z.toNat < 128) <;> cases decide (191 < z.toNat) <;> cases decide (w.toNat < 128) <;> cases decide (191 < w.toNat) <;> simp
theorem L396_is (N : Nat) : ∀ (fuel : Nat) (v : List UInt8), v.length < fuel → v.length < N → L396_0 h401 N (some true) fuel v = some (valid v) := by
  intro fuel
  induction fuel with
  | zero => intro v h; omega
  | succ m ih =>
    intro v h hN
    cases v with
    | nil => rw [valid_nil]; rfl
    | cons b r =>
      simp only [List.length_cons] at h hN
      by_cases hb : b.toNat < 128
      · obtain ⟨k, e1, e2⟩ := L396_asc N (some true) m b r hb (by omega)
        rw [e1, ih (r.drop k) (by rw [List.length_drop]; omega) (by rw [List.length_drop]; omega), e2, valid_asc hb]
      · rw [step396 N (some true) m b r hb valid (fun j => ih (r.drop j) (by rw [List.length_drop]; omega) (by rw [List.length_drop]; omega))]
        congr 1
        rcases sz_all b.toNat with hs | hs | hs | hs
        · rw [hs, valid0 (by omega) hs]; rfl
        · rw [valid2 hs, hs]; rfl
        · rw [valid3 hs, hs]; rfl
        · rw [valid4 hs, hs]; rfl
def h396 (s : List UInt8) := p396 h401 1200 s
theorem E396 : EntOK FT XU 396 (en396 h396) := ok396 h401 E401 fun _ _ h => ⟨1200, h⟩
theorem h396_is {s : List UInt8} (hs : s.length ≤ 1000) : h396 s = some (valid s) := L396_is 1200 1200 s (by omega) (by omega)
def h391 (s : List UInt8) := p391 h396 h397 0 s
theorem E391 : EntOK FT XU 391 (en391 h391) := ok391 h396 h397 E396 E397 fun _ _ h => ⟨0, h⟩
theorem h391_is {s : List UInt8} (hs : s.length ≤ 1000) : h391 s = some ((may s : Nat) : Int) := by
  unfold h391 p391 may
  rw [h396_is hs]
  unfold valid
  cases hg : signs s with
  | none => rfl
  | some l =>
    simp only [Option.isSome_some, Bool.not_true, cond_false, h397_is hs hg]
    by_cases h : 64 < l.length
    · simp only [show ((l.length : Nat) : Int) > 64 by omega, decide_true, cond_true, h, if_true]; rfl
    · simp only [show ¬ (((l.length : Nat) : Int) > 64) by omega, decide_false, cond_false, h, if_false]; rfl
def h392 (s : List UInt8) := p392 h391 1200 s
theorem E392 : EntOK FT XU 392 (en392 h392) := ok392 h391 E391 fun _ _ h => ⟨1200, h⟩
theorem h392_is {s : List UInt8} (hs : s.length ≤ 1000) : h392 s = some (nI (uns s)) := by
  unfold h392 p392
  rw [h391_is hs]
  by_cases h : may s = 0
  · obtain ⟨l, h1, h2, h3⟩ := may_zero h
    rw [h3, h]
    simp only [show (((0 : Nat) : Int) != 0) = false from rfl, cond_false]
    refine (L392_is 1200 _ s hs l 0 1200 [] h1 (by omega) (by omega) (by simp)).trans ?_
    simp only [List.nil_append, Nat.zero_add, Nat.mul_one, nI_len, Nat.le_refl, decide_true, cond_true, List.drop_zero]
    rw [List.take_of_length_le (by rw [nI_len]; exact Nat.le_refl _)]
  · simp only [show (((may s : Nat) : Int) != 0) = true from bne_iff_ne.2 (by omega), cond_true]
    unfold uns
    rw [if_neg h]; rfl
def h387 (s : List UInt8) := p387 h391 h392 h19 1200 s
theorem E387 : EntOK FT XU 387 (en387 h387) := ok387 h391 h392 h19 E391 E392 E19 fun _ _ h => ⟨1200, h⟩
theorem h387_is {s : List UInt8} (hs : s.length ≤ 1000) : h387 s = some (nI (layS s), ((may s : Nat) : Int)) := by
  unfold h387 p387
  rw [h391_is hs]
  by_cases h : may s = 0
  · rw [h392_is hs, h]
    simp only [show (((0 : Nat) : Int) != 0) = false from rfl, cond_false, nI_len]
    have := uns_len (s := s)
    refine (L387_is 1200 _ (uns s) uns_bel (by omega) (uns s).length 0 1200 [] (by omega) (by omega) (by simp)).trans ?_
    simp only [List.nil_append, Nat.zero_add, Nat.mul_one, nI_len, Nat.le_refl, decide_true, cond_true, List.drop_zero]
    rw [List.take_of_length_le (by rw [nI_len]; exact Nat.le_refl _)]
    rfl
  · simp only [show (((may s : Nat) : Int) != 0) = true from bne_iff_ne.2 (by omega), cond_true]
    rw [layS_no h]; rfl
end Go.Proofs.YtchoafdpckknmaaDoorE
