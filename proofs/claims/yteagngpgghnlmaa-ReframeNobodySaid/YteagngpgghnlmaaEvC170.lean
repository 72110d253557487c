/- Chapter 17: attributes laid, parsed, looked at. -/
import Derived.Test.YteagngpgghnlmaaEvBb0
namespace Go.Proofs.YteagngpgghnlmaaE
open Go
set_option linter.unusedSimpArgs false
set_option linter.unusedVariables false

theorem gt_nat {β : Type} (l : List Nat) {i : Nat} (h : i < l.length) : geti (nI l) (i : Int) = some ((gt l i : Nat) : Int) := by rw [geti_nat, getn h]
def kind17 (x : Nat) : Bool := decide (1 ≤ x) && decide (x ≤ 4)
def h161 (x : Int) := p161 0 x
theorem E161 : EntOK FT XT 161 (en161 h161) := ok161 fun _ _ h => ⟨0, h⟩
theorem h161_is (x : Nat) : h161 (x : Int) = some (kind17 x) := by
  unfold h161 p161 kind17
  by_cases h : 1 ≤ x
  · rw [show decide ((x : Int) ≥ 1) = true from decide_eq_true (by omega), decide_eq_true h]
    simp only [cond_true, Bool.true_and]
    congr 1
    exact decide_eq_decide.2 (by omega)
  · rw [show decide ((x : Int) ≥ 1) = false from decide_eq_false (by omega), decide_eq_false h]; rfl
def h162 (x : Int) := p162 0 x
theorem E162 : EntOK FT XT 162 (en162 h162) := ok162 fun _ _ h => ⟨0, h⟩
theorem h162_is (x : Nat) : h162 (x : Int) = some (kind17 x) := h161_is x
def h144 (a b : Int × List Int) := p144 h160 0 a b
theorem E144 : EntOK FT XT 144 (en144 h144) := ok144 h160 E160 fun _ _ _ h => ⟨0, h⟩
theorem h144_is {p q : Nat} {a b : List Nat} (ha : bel 256 a) (hb : bel 256 b) : h144 ((p : Int), nI a) ((q : Int), nI b) = some (p == q && a == b) := by
  unfold h144 p144
  simp only [h160_is ha hb, nbeq]
  cases (p == q) <;> rfl
theorem h144_same {p : Nat} {a : List Nat} (ha : bel 256 a) : h144 ((p : Int), nI a) ((p : Int), nI a) = some true := by
  rw [h144_is ha ha, beq_self_eq_true, beq_self_eq_true]; rfl
/-! ### laid -/
def lay17 (id : Nat) (d : List Nat) : List Nat × Nat :=
  if kind17 id = false then ([], 9) else if 4091 < d.length then ([], 8) else ([0, id] ++ (be2 (4 + d.length) ++ d), 0)
def enB (x : List Nat × Nat) : List Int × Int := (nI x.1, ((x.2 : Nat) : Int))
theorem be2_bel (n : Nat) : bel 256 (be2 n) := fun x hx => by simp [be2] at hx; omega
theorem be4_bel (n : Nat) : bel 256 (be4 n) := fun x hx => by simp [be4] at hx; omega
def h139 (a : Int × List Int) := p139 h161 h19 f1 0 a
theorem E139 : EntOK FT XT 139 (en139 h139) := ok139 h161 h19 f1 E161 E19 E46 fun _ _ h => ⟨0, h⟩
theorem h139_is {id : Nat} {d : List Nat} (hd : d.length ≤ 100000) : h139 ((id : Int), nI d) = some (enB (lay17 id d)) := by
  unfold h139 p139 lay17
  have e : iadd .i64 4 ((d.length : Nat) : Int) = ((4 + d.length : Nat) : Int) := addn (a := 4) (by omega)
  simp only [h161_is, nI_len, e, w64 (show 4 + d.length < 2 ^ 64 by omega), put_be2, Bool.cond_eq_ite, decide_eq_true_eq, Bool.not_eq_true']
  by_cases hk : kind17 id = false
  · rw [if_pos hk, if_pos hk]; rfl
  rw [if_neg hk, if_neg hk]
  by_cases h4 : 4091 < d.length
  · rw [if_pos (by omega), if_pos h4]; rfl
  rw [if_neg (by omega), if_neg h4]
  have j : f1 [[0, (id : Int)], nI (be2 (4 + d.length)), nI d] = some (nI ([0, id] ++ (be2 (4 + d.length) ++ d))) := join3 (a := [0, id]) (by simp [be2]; omega)
  simp only [j, List.drop_zero, List.take_length]
  rw [if_pos (by omega)]; rfl
theorem lay17_len (id : Nat) (d : List Nat) : (lay17 id d).1.length ≤ d.length + 4 := by
  unfold lay17
  split
  · exact Nat.zero_le _
  split
  · exact Nat.zero_le _
  simp [be2] <;> omega
theorem lay17_bel {id : Nat} {d : List Nat} (hi : id < 256) (hd : bel 256 d) : bel 256 (lay17 id d).1 := by
  unfold lay17
  split
  · exact fun x hx => by cases hx
  split
  · exact fun x hx => by cases hx
  exact bel_app (fun x hx => by simp at hx; omega) (bel_app (be2_bel _) hd)
/-! ### parsed -/
def parse17 : List Nat → (Nat × List Nat) × (Nat × Nat)
  | w :: x :: y :: v :: r => if w ≠ 0 ∨ y * 256 + v < 4 ∨ 4095 < y * 256 + v then ((0, []), (0, 3)) else if kind17 x = false then ((0, []), (0, 9)) else if r.length + 4 < y * 256 + v then ((0, []), (0, 4)) else ((x, r.take (y * 256 + v - 4)), (y * 256 + v, 0))
  | _ => ((0, []), (0, 4))
def enP (x : (Nat × List Nat) × (Nat × Nat)) : (Int × List Int) × Int × Int := (((x.1.1 : Nat), nI x.1.2), (((x.2.1 : Nat) : Int), ((x.2.2 : Nat) : Int)))
theorem parse17_short {b : List Nat} (h : b.length < 4) : parse17 b = ((0, []), (0, 4)) := by
  match b, h with
  | [], _ => rfl
  | [_], _ => rfl
  | [_, _], _ => rfl
  | [_, _, _], _ => rfl
def h142 (b : List Int) := p142 h21 h161 f108 0 b
theorem E142 : EntOK FT XT 142 (en142 h142) := ok142 h21 h161 f108 E21 E161 E108 fun _ _ h => ⟨0, h⟩
theorem h142_is {b : List Nat} (hb : bel 256 b) (hl : b.length ≤ 100000) : h142 (nI b) = some (enP (parse17 b)) := by
  unfold h142 p142
  simp only [nI_len, Bool.cond_eq_ite, decide_eq_true_eq, Bool.not_eq_true', Bool.and_eq_true, bne_iff_ne]
  by_cases h4 : b.length < 4
  · rw [if_pos (by omega), parse17_short h4]; rfl
  rw [if_neg (by omega), if_pos (by omega)]
  match b, hb, hl, h4 with
  | [], _, _, h => exact absurd (by simp) h
  | [_], _, _, h => exact absurd (by simp) h
  | [_, _], _, _, h => exact absurd (by simp) h
  | [_, _, _], _, _, h => exact absurd (by simp) h
  | w :: x :: y :: v :: r, hb, hl, _ =>
    have hy : y < 256 := hb y (by simp)
    have hv : v < 256 := hb v (by simp)
    simp only [nI_cons, List.drop_succ_cons, List.drop_zero, List.take_succ_cons, List.take_zero, get_be2 hy hv, geti_c0, geti_c1, wrap_i64 (x := ((y * 256 + v : Nat) : Int)) (by omega) (by omega), h161_is, Int.toNat_natCast, List.length_cons, nI_take, parse17]
    by_cases g0 : w = 0
    · rw [if_neg (show ¬ (w : Int) ≠ 0 by omega)]
      by_cases g1 : y * 256 + v < 4
      · rw [if_pos (by omega), if_pos (.inr (.inl g1))]; rfl
      rw [if_neg (by omega)]
      by_cases g2 : 4095 < y * 256 + v
      · rw [if_pos (by omega), if_pos (.inr (.inr g2))]; rfl
      rw [if_neg (by omega), if_neg (show ¬ (w ≠ 0 ∨ y * 256 + v < 4 ∨ 4095 < y * 256 + v) by omega)]
      by_cases g3 : kind17 x = false
      · rw [if_pos g3, if_pos g3]; rfl
      rw [if_neg g3, if_neg g3]
      by_cases g4 : r.length + 4 < y * 256 + v
      · rw [if_pos (by omega), if_pos g4]; rfl
      rw [if_neg (by omega), if_neg g4, if_pos ⟨by omega, by omega⟩, if_pos (by omega), f108_nI (by rw [List.length_take]; simp at hl; omega)]
      simp only [List.drop_zero, List.take_length]
      rw [if_pos (by omega)]; rfl
    · rw [if_pos (show (w : Int) ≠ 0 by omega), if_pos (.inl g0)]; rfl
def h143 (b : List Int) := p143 h51 h162 0 b
theorem E143 : EntOK FT XT 143 (en143 h143) := ok143 h51 h162 E51 E162 fun _ _ h => ⟨0, h⟩
theorem h143_is {b : List Nat} (hb : bel 256 b) (hl : b.length ≤ 100000) : h143 (nI b) = some (enP (parse17 b)) := by
  unfold h143 p143
  simp only [nI_len, Bool.cond_eq_ite, decide_eq_true_eq, Bool.not_eq_true', Bool.and_eq_true, bne_iff_ne]
  by_cases h4 : b.length < 4
  · rw [if_pos (by omega), parse17_short h4]; rfl
  rw [if_neg (by omega), if_pos (by omega)]
  match b, hb, hl, h4 with
  | [], _, _, h => exact absurd (by simp) h
  | [_], _, _, h => exact absurd (by simp) h
  | [_, _], _, _, h => exact absurd (by simp) h
  | [_, _, _], _, _, h => exact absurd (by simp) h
  | w :: x :: y :: v :: r, hb, hl, _ =>
    have hy : y < 256 := hb y (by simp)
    have hv : v < 256 := hb v (by simp)
    simp only [nI_cons, List.drop_succ_cons, List.drop_zero, List.take_succ_cons, List.take_zero, h51_2 hy hv, geti_c0, geti_c1, wrap_i64 (x := ((y * 256 + v : Nat) : Int)) (by omega) (by omega), h162_is, Int.toNat_natCast, List.length_cons, nI_take, parse17]
    by_cases g0 : w = 0
    · rw [if_neg (show ¬ (w : Int) ≠ 0 by omega)]
      by_cases g1 : y * 256 + v < 4
      · rw [if_pos (by omega), if_pos (.inr (.inl g1))]; rfl
      rw [if_neg (by omega)]
      by_cases g2 : 4095 < y * 256 + v
      · rw [if_pos (by omega), if_pos (.inr (.inr g2))]; rfl
      rw [if_neg (by omega), if_neg (show ¬ (w ≠ 0 ∨ y * 256 + v < 4 ∨ 4095 < y * 256 + v) by omega)]
      by_cases g3 : kind17 x = false
      · rw [if_pos g3, if_pos g3]; rfl
      rw [if_neg g3, if_neg g3]
      by_cases g4 : r.length + 4 < y * 256 + v
      · rw [if_pos (by omega), if_pos g4]; rfl
      rw [if_neg (by omega), if_neg g4, if_pos ⟨by omega, by omega⟩, if_pos (by omega)]; rfl
    · rw [if_pos (show (w : Int) ≠ 0 by omega), if_pos (.inl g0)]; rfl
theorem parse17_bel {b : List Nat} (h : bel 256 b) : bel 256 (parse17 b).1.2 := by
  unfold parse17
  split
  · rename_i w x y v r
    split
    · exact fun x hx => by cases hx
    split
    · exact fun x hx => by cases hx
    split
    · exact fun x hx => by cases hx
    exact bel_take (fun z hz => h z (by simp; exact .inr (.inr (.inr (.inr hz)))))
  · exact fun x hx => by cases hx
/-- what is laid is parsed, whatever stands behind it -/
theorem back17 {id : Nat} {d b : List Nat} (hd : bel 256 d) (h : (lay17 id d).2 = 0) : parse17 ((lay17 id d).1 ++ b) = ((id, d), ((lay17 id d).1.length, 0)) := by
  unfold lay17 at h ⊢
  by_cases hk : kind17 id = false
  · rw [if_pos hk] at h; cases h
  rw [if_neg hk] at h ⊢
  by_cases h4 : 4091 < d.length
  · rw [if_pos h4] at h; cases h
  rw [if_neg h4]
  have e : ([0, id] ++ (be2 (4 + d.length) ++ d)) ++ b = 0 :: id :: ((4 + d.length) / 256 % 256) :: ((4 + d.length) % 256) :: (d ++ b) := by simp [be2]
  have n : (4 + d.length) / 256 % 256 * 256 + (4 + d.length) % 256 = 4 + d.length := by omega
  show parse17 (([0, id] ++ (be2 (4 + d.length) ++ d)) ++ b) = _
  rw [e]
  simp only [parse17, n]
  rw [if_neg (by omega), if_neg hk, if_neg (by rw [List.length_append]; omega)]
  have e2 : (d ++ b).take (4 + d.length - 4) = d := by rw [show 4 + d.length - 4 = d.length by omega, List.take_left]
  rw [e2]
  simp [be2]; omega
end Go.Proofs.YteagngpgghnlmaaE
