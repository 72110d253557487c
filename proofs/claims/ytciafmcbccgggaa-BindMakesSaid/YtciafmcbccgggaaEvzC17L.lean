/- Chapter 17: attributes made and taken apart, and the laws. -/
import Derived.Test.YtciafmcbccgggaaEvzC17
namespace Go.Proofs.YtciafmcbccgggaaE
open Go
set_option linter.unusedSimpArgs false
set_option linter.unusedVariables false

def h166 (n : Int) := p166 0 n
theorem E166 : EntOK FT XT 166 (en166 h166) := ok166 fun _ _ h => ⟨0, h⟩
def bd17 (x : List Nat) : List Nat := 0 :: 0 :: 0 :: x
/-- a row by its places -/
theorem as_map {l : List Nat} {n : Nat} (h : l.length = n) : nI l = (List.range n).map fun i => ((gt l i : Nat) : Int) := by
 apply List.ext_getElem?
 intro i
 rw [nI_get, List.getElem?_map]
 by_cases hi : i < n
 ·rw [List.getElem?_range hi, List.getElem?_eq_getElem (by omega)]
  simp only [Option.map_some, gt, List.getD_eq_getElem?_getD, List.getElem?_eq_getElem (show i < l.length by omega), Option.getD_some]
 ·rw [List.getElem?_eq_none (by omega), List.getElem?_eq_none (by simp; omega)]; rfl
theorem as_drop {l : List Nat} {k n : Nat} (h : l.length = k + n) : nI (l.drop k) = (List.range' k n).map fun i => ((gt l i : Nat) : Int) := by
 apply List.ext_getElem?
 intro i
 rw [nI_get, List.getElem?_map, List.getElem?_drop]
 by_cases hi : i < n
 ·rw [List.getElem?_range' hi, List.getElem?_eq_getElem (by omega)]
  simp only [Option.map_some, gt, List.getD_eq_getElem?_getD, Nat.one_mul, List.getElem?_eq_getElem (show k + i < l.length by omega), Option.getD_some]
 ·rw [List.getElem?_eq_none (by omega), List.getElem?_eq_none (by simp; omega)]; rfl
def h148 (x : List Int) := p148 h166 f1 0 x
theorem E148 : EntOK FT XT 148 (en148 h148) := ok148 h166 f1 E166 E46 fun _ _ h => ⟨0, h⟩
theorem h148_fn (f : Nat → Int) : h148 ((List.range 97).map f) = some (3, 0 :: 0 :: 0 :: (List.range 97).map f) := by kernel_rfl
theorem h148_is {x : List Nat} (h : x.length = 97) : h148 (nI x) = some (3, nI (bd17 x)) := by
 show _ = some (3, 0 :: 0 :: 0 :: nI x)
 rw [as_map h, h148_fn]
def h149 (x : List Int) := p149 h166 f1 0 x
theorem E149 : EntOK FT XT 149 (en149 h149) := ok149 h166 f1 E166 E46 fun _ _ h => ⟨0, h⟩
theorem h149_fn (f : Nat → Int) : h149 ((List.range 33).map f) = some (4, 0 :: 0 :: 0 :: (List.range 33).map f) := by kernel_rfl
theorem h149_is {x : List Nat} (h : x.length = 33) : h149 (nI x) = some (4, nI (bd17 x)) := by
 show _ = some (4, 0 :: 0 :: 0 :: nI x)
 rw [as_map h, h149_fn]
def h151 (m : Int) (a b c : List Int) := p151 0 m a b c
theorem E151 : EntOK FT XT 151 (en151 h151) := ok151 fun _ _ _ _ _ h => ⟨0, h⟩
theorem h151_is {m : Nat} {a b c : List Nat} (ha : a.length = 32) (hb : b.length = 32) (hc : c.length = 32) : h151 (m : Int) (nI a) (nI b) (nI c) = some (3, nI ([0, 0, 0, m] ++ (a ++ (b ++ c)))) := by
 unfold h151 p151
 have t : ∀ {l : List Nat}, l.length = 32 → List.take 32 (List.drop 0 (nI l)) = nI l := fun h => tk0 _ (by rw [nI_len]; omega)
 have e1 : ([0, 0, 0, (m : Int)] ++ nI a) ++ nI b ++ nI c = nI ([0, 0, 0, m] ++ (a ++ (b ++ c))) := by simp [nI]
 have l1 : ([0, 0, 0, (m : Int)] ++ nI a).length = 36 := by simp [nI_len, ha]
 have l2 : (([0, 0, 0, (m : Int)] ++ nI a) ++ nI b).length = 68 := by simp [nI_len, ha, hb]
 have l3 : ([0, 0, 0, m] ++ (a ++ (b ++ c))).length = 100 := by simp [ha, hb, hc]
 have e2 : List.take 100 (List.drop 0 (nI ([0, 0, 0, m] ++ (a ++ (b ++ c))))) = nI ([0, 0, 0, m] ++ (a ++ (b ++ c))) := tk0 _ (by rw [nI_len, l3]; exact Nat.le_refl _)
 simp only [t ha, t hb, t hc, l1, l2, e1, e2]
 simp only [nI_len, ha, hb, hc, l3, Nat.le_refl, decide_true, cond_true, beq_self_eq_true, Bool.and_self]
def h152 (m : Int) (a : List Int) := p152 0 m a
theorem E152 : EntOK FT XT 152 (en152 h152) := ok152 fun _ _ _ h => ⟨0, h⟩
theorem h152_is {m : Nat} {a : List Nat} (ha : a.length = 32) : h152 (m : Int) (nI a) = some (4, nI ([0, 0, 0, m] ++ a)) := by
 unfold h152 p152
 have t : List.take 32 (List.drop 0 (nI a)) = nI a := tk0 _ (by rw [nI_len]; omega)
 have e1 : [0, 0, 0, (m : Int)] ++ nI a = nI ([0, 0, 0, m] ++ a) := by simp [nI]
 have l3 : ([0, 0, 0, m] ++ a).length = 36 := by simp [ha]
 have e2 : List.take 36 (List.drop 0 (nI ([0, 0, 0, m] ++ a))) = nI ([0, 0, 0, m] ++ a) := tk0 _ (by rw [nI_len, l3]; exact Nat.le_refl _)
 simp only [t, e1, e2]
 simp only [nI_len, ha, l3, Nat.le_refl, decide_true, cond_true]
def to17 (k id : Nat) (d : List Nat) : Nat := if id = k then check17 id d else 9
def h167 (a : Int × List Int) (k : Int) := p167 h145 0 a k
theorem E167 : EntOK FT XT 167 (en167 h167) := ok167 h145 E145 fun _ _ _ h => ⟨0, h⟩
theorem h167_is {id k : Nat} {d : List Nat} (hd : bel 256 d) : h167 ((id : Int), nI d) (k : Int) = some (to17 k id d : Int) := by
 unfold h167 p167 to17
 simp only [h145_is hd, Bool.cond_eq_ite, bne_iff_ne]
 by_cases h : id = k
 ·rw [if_neg (by omega), if_pos h]
 ·rw [if_pos (by omega), if_neg h]; rfl
theorem to17_ok {k id : Nat} {d : List Nat} (hk : 1 ≤ k) (hk4 : k ≤ 4) (h : to17 k id d = 0) : id = k ∧ (lim17 k).1 ≤ d.length ∧ d.length ≤ (lim17 k).2.1 ∧ (k ≠ 1 → d.take 3 = [0, 0, 0] ∧ (lim17 k).2.2.1 ≤ gt d 3 ∧ gt d 3 ≤ (lim17 k).2.2.2) := by
 unfold to17 at h
 split at h
 ·rename_i e
  subst e
  unfold check17 at h
  split at h
  ·cases h
  split at h
  ·cases h
  split at h
  ·cases h
  split at h
  ·exact ⟨rfl, by omega, by omega, fun g => absurd (by assumption) g⟩
  split at h
  ·rename_i g; exact ⟨rfl, by omega, by omega, fun _ => g⟩
  ·cases h
 ·cases h
theorem head3 {d : List Nat} (h : d.take 3 = [0, 0, 0]) : bd17 (d.drop 3) = d := by
 unfold bd17
 have := List.take_append_drop 3 d
 rw [h] at this
 exact this
section
variable {c167 : Int × (List Int) → Int → Option Int}
theorem p154_fn {id : Int} (f : Nat → Int) (F : c167 (id, (List.range 100).map f) 3 = some 0) : p154 c167 0 (id, (List.range 100).map f) = some ((List.range' 3 97).map f, 0) := by
 unfold p154
 rw [F]
 kernel_rfl
theorem p155_fn {id : Int} (f : Nat → Int) (F : c167 (id, (List.range 36).map f) 4 = some 0) : p155 c167 0 (id, (List.range 36).map f) = some ((List.range' 3 33).map f, 0) := by
 unfold p155
 rw [F]
 kernel_rfl
theorem p154_bad {a : Int × List Int} {e : Int} (F : c167 (a.1, a.2) 3 = some e) (he : e ≠ 0) : p154 c167 0 a = some (nI (List.replicate 97 0), e) := by
 unfold p154
 rw [F]
 simp only [bne_iff_ne.2 he, cond_true]
 rfl
theorem p155_bad {a : Int × List Int} {e : Int} (F : c167 (a.1, a.2) 4 = some e) (he : e ≠ 0) : p155 c167 0 a = some (nI (List.replicate 33 0), e) := by
 unfold p155
 rw [F]
 simp only [bne_iff_ne.2 he, cond_true]
 rfl
end
def h154 (a : Int × List Int) := p154 h167 0 a
theorem E154 : EntOK FT XT 154 (en154 h154) := ok154 h167 E167 fun _ _ h => ⟨0, h⟩
theorem h154_is {id : Nat} {d : List Nat} (hd : bel 256 d) : ∃ q : List Nat, h154 ((id : Int), nI d) = some (nI q, (to17 3 id d : Int)) ∧ q.length = 97 ∧ (to17 3 id d = 0 → bd17 q = d ∧ q = d.drop 3) := by
 have e1 : h167 ((id : Int), nI d) 3 = some (to17 3 id d : Int) := h167_is (k := 3) hd
 by_cases h : to17 3 id d = 0
 ·obtain ⟨h1, h2, h3, h4⟩ := to17_ok (by omega) (by omega) h
  obtain ⟨h4, h5, h6⟩ := h4 (by omega)
  have h2' : 100 ≤ d.length := h2
  have h3' : d.length ≤ 100 := h3
  have hl : d.length = 100 := by omega
  refine ⟨d.drop 3, ?_, by simp; omega, fun _ => ⟨head3 h4, rfl⟩⟩
  rw [h] at e1 ⊢
  rw [as_drop (k := 3) (n := 97) hl]
  rw [as_map hl] at e1 ⊢
  exact p154_fn _ e1
 ·exact ⟨List.replicate 97 0, p154_bad (a := ((id : Int), nI d)) e1 (by omega), by simp, fun g => absurd g h⟩
def h155 (a : Int × List Int) := p155 h167 0 a
theorem E155 : EntOK FT XT 155 (en155 h155) := ok155 h167 E167 fun _ _ h => ⟨0, h⟩
theorem h155_is {id : Nat} {d : List Nat} (hd : bel 256 d) : ∃ q : List Nat, h155 ((id : Int), nI d) = some (nI q, (to17 4 id d : Int)) ∧ q.length = 33 ∧ (to17 4 id d = 0 → bd17 q = d ∧ q = d.drop 3) := by
 have e1 : h167 ((id : Int), nI d) 4 = some (to17 4 id d : Int) := h167_is (k := 4) hd
 by_cases h : to17 4 id d = 0
 ·obtain ⟨h1, h2, h3, h4⟩ := to17_ok (by omega) (by omega) h
  obtain ⟨h4, h5, h6⟩ := h4 (by omega)
  have h2' : 36 ≤ d.length := h2
  have h3' : d.length ≤ 36 := h3
  have hl : d.length = 36 := by omega
  refine ⟨d.drop 3, ?_, by simp; omega, fun _ => ⟨head3 h4, rfl⟩⟩
  rw [h] at e1 ⊢
  rw [as_drop (k := 3) (n := 33) hl]
  rw [as_map hl] at e1 ⊢
  exact p155_fn _ e1
 ·exact ⟨List.replicate 33 0, p155_bad (a := ((id : Int), nI d)) e1 (by omega), by simp, fun g => absurd g h⟩
section
variable {c138 : Option Bool} {c140 : Int × (List Int) → Option (Int × (List Int))} {c139 c141 : Int × (List Int) → Option ((List Int) × Int)} {c142 c143 : List Int → Option ((Int × (List Int)) × Int × Int)} {c23 : List Int → List Int → Option Bool} {c144 : Int × (List Int) → Int × (List Int) → Option Bool} {c145 c146 : Int × (List Int) → Option Int}
end
section
variable {c138 : Option Bool} {c140 : Int × (List Int) → Option (Int × (List Int))} {c156 : Int × (List Int) → Option (Int × Int)} {c153 : Int × (List Int) → Option ((Int × Int × (List Int)) × Int)} {c154 c155 : Int × (List Int) → Option ((List Int) × Int)} {c158 : Int × (List Int) → Int → Option Int} {c157 : Int → Option (Int × (List Int))} {c144 : Int × (List Int) → Int × (List Int) → Option Bool} {c147 : Int × Int × (List Int) → Option (Int × (List Int))} {c148 c149 : List Int → Option (Int × (List Int))}
end
section
variable {c138 : Option Bool} {c140 : Int × (List Int) → Option (Int × (List Int))} {c156 : Int × (List Int) → Option (Int × Int)} {c153 : Int × (List Int) → Option ((Int × Int × (List Int)) × Int)} {c154 c155 : Int × (List Int) → Option ((List Int) × Int)} {c157 : Int → Option (Int × (List Int))} {c144 : Int × (List Int) → Int × (List Int) → Option Bool} {c147 : Int × Int × (List Int) → Option (Int × (List Int))} {c148 c149 : List Int → Option (Int × (List Int))}
 {c150 : Int → Int → List Int → Option (Int × (List Int))} {c151 : Int → List Int → List Int → List Int → Option (Int × (List Int))} {c152 : Int → List Int → Option (Int × (List Int))} {c23 : List Int → List Int → Option Bool}
end
end Go.Proofs.YtciafmcbccgggaaE
