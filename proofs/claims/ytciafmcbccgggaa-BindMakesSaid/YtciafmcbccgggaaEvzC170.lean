/- Chapter 17: attributes laid, parsed, looked at. -/
import Derived.Test.YtciafmcbccgggaaEvzC13
namespace Go.Proofs.YtciafmcbccgggaaE
open Go
set_option linter.unusedSimpArgs false
set_option linter.unusedVariables false

theorem gt_nat {β : Type} (l : List Nat) {i : Nat} (h : i < l.length) : geti (nI l) (i : Int) = some ((gt l i : Nat) : Int) := by rw [geti_nat, getn h]
def kind17 (x : Nat) : Bool := decide (1 ≤ x) && decide (x ≤ 4)
def h161 (x : Int) := p161 0 x
theorem E161 : EntOK FT XT 161 (en161 h161) := ok161 fun _ _ h => ⟨0, h⟩
theorem h161_is (x : Nat) : h161 (x : Int) = some (kind17 x) := by
 unfold h161 p161 kind17
 by_cases h : 1 ≤ x
 ·rw [show decide ((x : Int) ≥ 1) = true from decide_eq_true (by omega), decide_eq_true h]
  simp only [cond_true, Bool.true_and]
  congr 1
  exact decide_eq_decide.2 (by omega)
 ·rw [show decide ((x : Int) ≥ 1) = false from decide_eq_false (by omega), decide_eq_false h]; rfl
def h162 (x : Int) := p162 0 x
theorem E162 : EntOK FT XT 162 (en162 h162) := ok162 fun _ _ h => ⟨0, h⟩
theorem h162_is (x : Nat) : h162 (x : Int) = some (kind17 x) := h161_is x
def h144 (a b : Int × List Int) := p144 h160 0 a b
theorem E144 : EntOK FT XT 144 (en144 h144) := ok144 h160 E160 fun _ _ _ h => ⟨0, h⟩
theorem h144_is {p q : Nat} {a b : List Nat} (ha : bel 256 a) (hb : bel 256 b) : h144 ((p : Int), nI a) ((q : Int), nI b) = some (p == q && a == b) := by
 unfold h144 p144
 simp only [h160_is ha hb, nbeq]
 cases (p == q) <;> rfl
def lay17 (id : Nat) (d : List Nat) : List Nat × Nat :=
 if kind17 id = false then ([], 9) else if 4091 < d.length then ([], 8) else ([0, id] ++ (be2 (4 + d.length) ++ d), 0)
def enB (x : List Nat × Nat) : List Int × Int := (nI x.1, ((x.2 : Nat) : Int))
theorem be2_bel (n : Nat) : bel 256 (be2 n) := fun x hx => by simp [be2] at hx; omega
def h139 (a : Int × List Int) := p139 h161 h19 f1 0 a
theorem E139 : EntOK FT XT 139 (en139 h139) := ok139 h161 h19 f1 E161 E19 E46 fun _ _ h => ⟨0, h⟩
theorem h139_is {id : Nat} {d : List Nat} (hd : d.length ≤ 100000) : h139 ((id : Int), nI d) = some (enB (lay17 id d)) := by
 unfold h139 p139 lay17
 have e : iadd .i64 4 ((d.length : Nat) : Int) = ((4 + d.length : Nat) : Int) := addn (a := 4) (by omega)
 simp only [h161_is, nI_len, e, w64 (show 4 + d.length < 2 ^ 64 by omega), put_be2, Bool.cond_eq_ite, decide_eq_true_eq, Bool.not_eq_true']
 by_cases hk : kind17 id = false
 ·rw [if_pos hk, if_pos hk]; rfl
 rw [if_neg hk, if_neg hk]
 by_cases h4 : 4091 < d.length
 ·rw [if_pos (by omega), if_pos h4]; rfl
 rw [if_neg (by omega), if_neg h4]
 have j : f1 [[0, (id : Int)], nI (be2 (4 + d.length)), nI d] = some (nI ([0, id] ++ (be2 (4 + d.length) ++ d))) := join3 (a := [0, id]) (by simp [be2]; omega)
 simp only [j, List.drop_zero, List.take_length]
 rw [if_pos (by omega)]; rfl
theorem lay17_len (id : Nat) (d : List Nat) : (lay17 id d).1.length ≤ d.length + 4 := by
 unfold lay17
 split
 ·exact Nat.zero_le _
 split
 ·exact Nat.zero_le _
 simp [be2] <;> omega
theorem lay17_bel {id : Nat} {d : List Nat} (hi : id < 256) (hd : bel 256 d) : bel 256 (lay17 id d).1 := by
 unfold lay17
 split
 ·exact fun x hx => by cases hx
 split
 ·exact fun x hx => by cases hx
 exact bel_app (fun x hx => by simp at hx; omega) (bel_app (be2_bel _) hd)
end Go.Proofs.YtciafmcbccgggaaE
