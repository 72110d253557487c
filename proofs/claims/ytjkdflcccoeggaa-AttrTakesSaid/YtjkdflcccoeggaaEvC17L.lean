/- Chapter 17: attributes made and taken apart, and the laws. -/
import Derived.Test.YtjkdflcccoeggaaEvC17
namespace Go.Proofs.YtjkdflcccoeggaaE
open Go
set_option linter.unusedSimpArgs false
set_option linter.unusedVariables false

theorem row_in {k : Nat} {l z : List Int} (hl : l.length = k) (hz : z.length = k) : ([] ++ l) ++ List.drop (0 + l.length) z = l := by
  rw [List.nil_append, List.drop_of_length_le (by omega), List.append_nil]
def h140 (a : Int × List Int) := p140 0 a
theorem E140 : EntOK FT XT 140 (en140 h140) := ok140 fun _ _ h => ⟨0, h⟩
theorem h140_is (a : Int × List Int) : h140 a = some a := rfl
def h166 (n : Int) := p166 0 n
theorem E166 : EntOK FT XT 166 (en166 h166) := ok166 fun _ _ h => ⟨0, h⟩
/-! ### made -/
def h157 (n : Int) := p157 h19 0 n
theorem E157 : EntOK FT XT 157 (en157 h157) := ok157 h19 E19 fun _ _ h => ⟨0, h⟩
theorem h157_is {n : Nat} (h : n < 65536) : h157 (n : Int) = some (1, nI (be2 n)) := by
  unfold h157 p157
  rw [w64 (by omega), put_be2]
def st17 (ab co : Nat) (de : List Nat) : List Nat := [0, 0, 0, ab] ++ (be4 co ++ de.take 64)
def bd17 (x : List Nat) : List Nat := 0 :: 0 :: 0 :: x
theorem min17 (n : Nat) : (if 64 < ((n : Nat) : Int) then 64 else ((n : Nat) : Int)) = ((min n 64 : Nat) : Int) := by split <;> omega
theorem take_min {l : List Nat} : l.take (min l.length 64) = l.take 64 := by
  by_cases h : l.length ≤ 64
  · rw [Nat.min_eq_left h, List.take_of_length_le (Nat.le_refl _), List.take_of_length_le h]
  · rw [Nat.min_eq_right (by omega)]
def h147 (s : Int × Int × List Int) := p147 h19 h166 f1 0 s
theorem E147 : EntOK FT XT 147 (en147 h147) := ok147 h19 h166 f1 E19 E166 E46 fun _ _ h => ⟨0, h⟩
theorem h147_is {ab co : Nat} {de : List Nat} (hc : co < 4294967296) : h147 ((ab : Int), ((co : Int), nI de)) = some (2, nI (st17 ab co de)) := by
  unfold h147 p147
  have j : f1 [[0, 0, 0, (ab : Int)], nI (be4 co), nI (de.take 64)] = some (nI (st17 ab co de)) := join3 (a := [0, 0, 0, ab]) (by simp [be4]; omega)
  simp only [w64 (show co < 2 ^ 64 by omega), put_be4, show h166 (ab : Int) = some [0, 0, 0, (ab : Int)] from rfl, nI_len, min17, Int.toNat_natCast, nI_take, take_min, j, List.drop_zero, List.take_length, Nat.zero_add, Nat.mul_one, Nat.le_refl, decide_true, cond_true, show decide ((0 : Int) ≤ ((min de.length 64 : Nat) : Int)) = true from decide_eq_true (by omega), show decide (((min de.length 64 : Nat) : Int) ≤ ((de.length : Nat) : Int)) = true from decide_eq_true (by omega), Bool.and_self]
theorem gt0 {x : List Nat} (h : 0 < x.length) : (nI x)[0]? = some ((gt x 0 : Nat) : Int) := getn h
/-- a row by its places -/
theorem as_map {l : List Nat} {n : Nat} (h : l.length = n) : nI l = (List.range n).map fun i => ((gt l i : Nat) : Int) := by
  apply List.ext_getElem?
  intro i
  rw [nI_get, List.getElem?_map]
  by_cases hi : i < n
  · rw [List.getElem?_range hi, List.getElem?_eq_getElem (by omega)]
    simp only [Option.map_some, gt, List.getD_eq_getElem?_getD, List.getElem?_eq_getElem (show i < l.length by omega), Option.getD_some]
  · rw [List.getElem?_eq_none (by omega), List.getElem?_eq_none (by simp; omega)]; rfl
theorem as_drop {l : List Nat} {k n : Nat} (h : l.length = k + n) : nI (l.drop k) = (List.range' k n).map fun i => ((gt l i : Nat) : Int) := by
  apply List.ext_getElem?
  intro i
  rw [nI_get, List.getElem?_map, List.getElem?_drop]
  by_cases hi : i < n
  · rw [List.getElem?_range' hi, List.getElem?_eq_getElem (by omega)]
    simp only [Option.map_some, gt, List.getD_eq_getElem?_getD, Nat.one_mul, List.getElem?_eq_getElem (show k + i < l.length by omega), Option.getD_some]
  · rw [List.getElem?_eq_none (by omega), List.getElem?_eq_none (by simp; omega)]; rfl
def h148 (x : List Int) := p148 h166 f1 0 x
theorem E148 : EntOK FT XT 148 (en148 h148) := ok148 h166 f1 E166 E46 fun _ _ h => ⟨0, h⟩
theorem h148_fn (f : Nat → Int) : h148 ((List.range 97).map f) = some (3, 0 :: 0 :: 0 :: (List.range 97).map f) := by kernel_rfl
theorem h148_is {x : List Nat} (h : x.length = 97) : h148 (nI x) = some (3, nI (bd17 x)) := by
  show _ = some (3, 0 :: 0 :: 0 :: nI x)
  rw [as_map h, h148_fn]
def h149 (x : List Int) := p149 h166 f1 0 x
theorem E149 : EntOK FT XT 149 (en149 h149) := ok149 h166 f1 E166 E46 fun _ _ h => ⟨0, h⟩
theorem h149_fn (f : Nat → Int) : h149 ((List.range 33).map f) = some (4, 0 :: 0 :: 0 :: (List.range 33).map f) := by kernel_rfl
theorem h149_is {x : List Nat} (h : x.length = 33) : h149 (nI x) = some (4, nI (bd17 x)) := by
  show _ = some (4, 0 :: 0 :: 0 :: nI x)
  rw [as_map h, h149_fn]
def h150 (a b : Int) (l : List Int) := p150 h50 0 a b l
theorem E150 : EntOK FT XT 150 (en150 h150) := ok150 h50 E50 fun _ _ _ _ h => ⟨0, h⟩
theorem h150_is {ab co : Nat} {de : List Nat} (hc : co < 4294967296) : h150 (ab : Int) (co : Int) (nI de) = some (2, nI (st17 ab co de)) := by
  unfold h150 p150
  have e0 : List.take (4 * 1) (List.drop 0 (nI (be4 co))) = nI (be4 co) := tk0 _ (Nat.le_refl _)
  have e1 : ([0, 0, 0, (ab : Int)] ++ nI (be4 co)) ++ nI (de.take 64) = nI (st17 ab co de) := by simp [nI, st17]
  have l1 : (be4 co).length = 4 := rfl
  have l2 : ([0, 0, 0, (ab : Int)] ++ nI (be4 co)).length = 8 := rfl
  have l3 : (de.take 64).length = min de.length 64 := by rw [List.length_take, Nat.min_comm]
  have l4 : (st17 ab co de).length = 4 + 4 + min de.length 64 := by simp [st17, be4]; omega
  have e2 : List.take (4 + 4 + min de.length 64) (List.drop 0 (nI (st17 ab co de))) = nI (st17 ab co de) := tk0 _ (by rw [nI_len, l4]; exact Nat.le_refl _)
  simp only [w64 (show co < 2 ^ 64 by omega), h50_4 (show co < 2 ^ 64 by omega), nI_len, l1, e0, l2, min17, Int.toNat_natCast, nI_take, take_min, e1, l3, l4, e2]
  simp only [show decide ((0 : Int) ≤ ((min de.length 64 : Nat) : Int)) = true from decide_eq_true (by omega), show decide (((min de.length 64 : Nat) : Int) ≤ ((de.length : Nat) : Int)) = true from decide_eq_true (by omega), Bool.and_self, cond_true, show (0 + 4 * 1 ≤ 4) = True from eq_true (by omega), show ((4 : Nat) < 4 + 4) = True from eq_true (by omega), decide_true, show ((4 + 4) * 1 ≤ 1099511627776) = True from eq_true (by omega), show ((4 + 4 : Nat) ≤ 1099511627776) = True from eq_true (by omega), show ((8 : Nat) == (4 + 4) * 1) = true from rfl, show ((4 + 4 + min de.length 64) * 1 ≤ 1099511627776) = True from eq_true (by omega), show (4 + 4 + min de.length 64 ≤ 1099511627776) = True from eq_true (by omega), show (0 + (4 + 4 + min de.length 64) * 1 ≤ 4 + 4 + min de.length 64) = True from eq_true (by omega)]
def h151 (m : Int) (a b c : List Int) := p151 0 m a b c
theorem E151 : EntOK FT XT 151 (en151 h151) := ok151 fun _ _ _ _ _ h => ⟨0, h⟩
theorem h151_is {m : Nat} {a b c : List Nat} (ha : a.length = 32) (hb : b.length = 32) (hc : c.length = 32) : h151 (m : Int) (nI a) (nI b) (nI c) = some (3, nI ([0, 0, 0, m] ++ (a ++ (b ++ c)))) := by
  unfold h151 p151
  have t : ∀ {l : List Nat}, l.length = 32 → List.take 32 (List.drop 0 (nI l)) = nI l := fun h => tk0 _ (by rw [nI_len]; omega)
  have e1 : ([0, 0, 0, (m : Int)] ++ nI a) ++ nI b ++ nI c = nI ([0, 0, 0, m] ++ (a ++ (b ++ c))) := by simp [nI]
  have l1 : ([0, 0, 0, (m : Int)] ++ nI a).length = 36 := by simp [nI_len, ha]
  have l2 : (([0, 0, 0, (m : Int)] ++ nI a) ++ nI b).length = 68 := by simp [nI_len, ha, hb]
  have l3 : ([0, 0, 0, m] ++ (a ++ (b ++ c))).length = 100 := by simp [ha, hb, hc]
  have e2 : List.take 100 (List.drop 0 (nI ([0, 0, 0, m] ++ (a ++ (b ++ c))))) = nI ([0, 0, 0, m] ++ (a ++ (b ++ c))) := tk0 _ (by rw [nI_len, l3]; exact Nat.le_refl _)
  simp only [t ha, t hb, t hc, l1, l2, e1, e2]
  simp only [nI_len, ha, hb, hc, l3, Nat.le_refl, decide_true, cond_true, beq_self_eq_true, Bool.and_self]
def h152 (m : Int) (a : List Int) := p152 0 m a
theorem E152 : EntOK FT XT 152 (en152 h152) := ok152 fun _ _ _ h => ⟨0, h⟩
theorem h152_is {m : Nat} {a : List Nat} (ha : a.length = 32) : h152 (m : Int) (nI a) = some (4, nI ([0, 0, 0, m] ++ a)) := by
  unfold h152 p152
  have t : List.take 32 (List.drop 0 (nI a)) = nI a := tk0 _ (by rw [nI_len]; omega)
  have e1 : [0, 0, 0, (m : Int)] ++ nI a = nI ([0, 0, 0, m] ++ a) := by simp [nI]
  have l3 : ([0, 0, 0, m] ++ a).length = 36 := by simp [ha]
  have e2 : List.take 36 (List.drop 0 (nI ([0, 0, 0, m] ++ a))) = nI ([0, 0, 0, m] ++ a) := tk0 _ (by rw [nI_len, l3]; exact Nat.le_refl _)
  simp only [t, e1, e2]
  simp only [nI_len, ha, l3, Nat.le_refl, decide_true, cond_true]
/-! ### taken apart -/
def to17 (k id : Nat) (d : List Nat) : Nat := if id = k then check17 id d else 9
def h167 (a : Int × List Int) (k : Int) := p167 h145 0 a k
theorem E167 : EntOK FT XT 167 (en167 h167) := ok167 h145 E145 fun _ _ _ h => ⟨0, h⟩
theorem h167_is {id k : Nat} {d : List Nat} (hd : bel 256 d) : h167 ((id : Int), nI d) (k : Int) = some (to17 k id d : Int) := by
  unfold h167 p167 to17
  simp only [h145_is hd, Bool.cond_eq_ite, bne_iff_ne]
  by_cases h : id = k
  · rw [if_neg (by omega), if_pos h]
  · rw [if_pos (by omega), if_neg h]; rfl
def h158 (a : Int × List Int) (k : Int) := p158 h146 0 a k
theorem E158 : EntOK FT XT 158 (en158 h158) := ok158 h146 E146 fun _ _ _ h => ⟨0, h⟩
theorem h158_is {id k : Nat} {d : List Nat} (hd : bel 256 d) : h158 ((id : Int), nI d) (k : Int) = some (to17 k id d : Int) := by
  unfold h158 p158 to17
  simp only [h146_is hd, Bool.cond_eq_ite, bne_iff_ne]
  by_cases h : id = k
  · rw [if_neg (by omega), if_pos h]
  · rw [if_pos (by omega), if_neg h]; rfl
theorem to17_ok {k id : Nat} {d : List Nat} (hk : 1 ≤ k) (hk4 : k ≤ 4) (h : to17 k id d = 0) : id = k ∧ (lim17 k).1 ≤ d.length ∧ d.length ≤ (lim17 k).2.1 ∧ (k ≠ 1 → d.take 3 = [0, 0, 0] ∧ (lim17 k).2.2.1 ≤ gt d 3 ∧ gt d 3 ≤ (lim17 k).2.2.2) := by
  unfold to17 at h
  split at h
  · rename_i e
    subst e
    unfold check17 at h
    split at h
    · cases h
    split at h
    · cases h
    split at h
    · cases h
    split at h
    · exact ⟨rfl, by omega, by omega, fun g => absurd (by assumption) g⟩
    split at h
    · rename_i g; exact ⟨rfl, by omega, by omega, fun _ => g⟩
    · cases h
  · cases h
theorem head4 {d : List Nat} (h : d.take 3 = [0, 0, 0]) (hl : 4 ≤ d.length) : [0, 0, 0, gt d 3] ++ d.drop 4 = d := by
  match d, hl with
  | p :: q :: r :: s :: t, _ =>
    simp at h
    obtain ⟨rfl, rfl, rfl⟩ := h
    rfl
def h156 (a : Int × List Int) := p156 h167 h21 0 a
theorem E156 : EntOK FT XT 156 (en156 h156) := ok156 h167 h21 E167 E21 fun _ _ h => ⟨0, h⟩
theorem h156_is {id : Nat} {d : List Nat} (hd : bel 256 d) : ∃ n : Nat, h156 ((id : Int), nI d) = some ((n : Int), (to17 1 id d : Int)) ∧ n < 65536 ∧ (to17 1 id d = 0 → be2 n = d) := by
  unfold h156 p156
  have e1 : h167 ((id : Int), nI d) 1 = some (to17 1 id d : Int) := h167_is (k := 1) hd
  simp only [e1]
  by_cases h : to17 1 id d = 0
  · obtain ⟨h1, h2, h3, _⟩ := to17_ok (by omega) (by omega) h
    simp only [lim17] at h2 h3
    match d, hd, (show d.length = 2 by simp at h2 h3; omega) with
    | [a, b], hd, _ =>
      have ha : a < 256 := hd a (by simp)
      have hb : b < 256 := hd b (by simp)
      refine ⟨a * 256 + b, ?_, by omega, fun _ => ?_⟩
      · rw [h]
        rw [show nI [a, b] = [(a : Int), (b : Int)] from rfl, get_be2 ha hb]
        simp only [w16, Nat.mod_eq_of_lt (show a * 256 + b < 65536 by omega)]
        rfl
      · simp [be2]; omega
  · refine ⟨0, ?_, by omega, fun g => absurd g h⟩
    rw [show (((to17 1 id d : Nat) : Int) != 0) = true from bne_iff_ne.2 (by omega), cond_true]
    rfl
def h153 (a : Int × List Int) := p153 h167 h21 f108 0 a
theorem E153 : EntOK FT XT 153 (en153 h153) := ok153 h167 h21 f108 E167 E21 E108 fun _ _ h => ⟨0, h⟩
theorem h153_is {id : Nat} {d : List Nat} (hd : bel 256 d) : ∃ ab co : Nat, ∃ de : List Nat, h153 ((id : Int), nI d) = some (((ab : Int), ((co : Int), nI de)), (to17 2 id d : Int)) ∧ co < 4294967296 ∧ bel 256 de ∧ de.length ≤ 64 ∧ (to17 2 id d = 0 → st17 ab co de = d ∧ ab = gt d 3 ∧ be4 co = (d.drop 4).take 4 ∧ de = d.drop 8) := by
  unfold h153 p153
  have e1 : h167 ((id : Int), nI d) 2 = some (to17 2 id d : Int) := h167_is (k := 2) hd
  simp only [e1]
  by_cases h : to17 2 id d = 0
  · obtain ⟨h1, h2, h3, h4⟩ := to17_ok (by omega) (by omega) h
    obtain ⟨h4, h5, h6⟩ := h4 (by omega)
    have h2' : 8 ≤ d.length := h2
    have h3' : d.length ≤ 72 := h3
    match d, hd, h2', h3', h4 with
    | p :: q :: r :: s :: a :: b :: c :: e :: t, hd, _, h3', h4 =>
      have ha : a < 256 := hd a (by simp)
      have hb : b < 256 := hd b (by simp)
      have hc : c < 256 := hd c (by simp)
      have he : e < 256 := hd e (by simp)
      simp only [List.take_succ_cons, List.take_zero, List.cons.injEq, and_true] at h4
      obtain ⟨rfl, rfl, rfl⟩ := h4
      have hbe : be4 (a * 16777216 + b * 65536 + c * 256 + e) = [a, b, c, e] := by simp [be4]; omega
      have ht : t.length ≤ 64 := by simp at h3'; omega
      refine ⟨s, a * 16777216 + b * 65536 + c * 256 + e, t, ?_, by omega, (fun x hx => hd x (by simp [hx])), ht, fun _ => ⟨?_, rfl, hbe, rfl⟩⟩
      · rw [h]
        simp only [nI_cons, List.drop_succ_cons, List.drop_zero, List.take_succ_cons, List.take_zero, get_be ha hb hc he, geti_c3, List.length_cons, nI_len, f108_nI (show t.length ≤ 100000 by omega), w32, Nat.mod_eq_of_lt (show a * 16777216 + b * 65536 + c * 256 + e < 4294967296 by omega)]
        rw [show decide ((8 : Int) ≤ ((t.length + 1 + 1 + 1 + 1 + 1 + 1 + 1 + 1 : Nat) : Int)) = true from decide_eq_true (by omega)]
        rw [← nI_len t, List.take_length, show decide (0 + (nI t).length * 1 ≤ (nI t).length) = true from decide_eq_true (by omega)]
        rfl
      · unfold st17
        rw [hbe, List.take_of_length_le ht]; rfl
  · refine ⟨0, 0, [], ?_, by omega, (fun x hx => by cases hx), by simp, fun g => absurd g h⟩
    rw [show (((to17 2 id d : Nat) : Int) != 0) = true from bne_iff_ne.2 (by omega), cond_true]
    rfl
theorem head3 {d : List Nat} (h : d.take 3 = [0, 0, 0]) : bd17 (d.drop 3) = d := by
  unfold bd17
  have := List.take_append_drop 3 d
  rw [h] at this
  exact this
section
variable {c167 : Int × (List Int) → Int → Option Int}
theorem p154_fn {id : Int} (f : Nat → Int) (F : c167 (id, (List.range 100).map f) 3 = some 0) : p154 c167 0 (id, (List.range 100).map f) = some ((List.range' 3 97).map f, 0) := by
  unfold p154
  rw [F]
  kernel_rfl
theorem p155_fn {id : Int} (f : Nat → Int) (F : c167 (id, (List.range 36).map f) 4 = some 0) : p155 c167 0 (id, (List.range 36).map f) = some ((List.range' 3 33).map f, 0) := by
  unfold p155
  rw [F]
  kernel_rfl
theorem p154_bad {a : Int × List Int} {e : Int} (F : c167 (a.1, a.2) 3 = some e) (he : e ≠ 0) : p154 c167 0 a = some (nI (List.replicate 97 0), e) := by
  unfold p154
  rw [F]
  simp only [bne_iff_ne.2 he, cond_true]
  rfl
theorem p155_bad {a : Int × List Int} {e : Int} (F : c167 (a.1, a.2) 4 = some e) (he : e ≠ 0) : p155 c167 0 a = some (nI (List.replicate 33 0), e) := by
  unfold p155
  rw [F]
  simp only [bne_iff_ne.2 he, cond_true]
  rfl
end
def h154 (a : Int × List Int) := p154 h167 0 a
theorem E154 : EntOK FT XT 154 (en154 h154) := ok154 h167 E167 fun _ _ h => ⟨0, h⟩
theorem h154_is {id : Nat} {d : List Nat} (hd : bel 256 d) : ∃ q : List Nat, h154 ((id : Int), nI d) = some (nI q, (to17 3 id d : Int)) ∧ q.length = 97 ∧ (to17 3 id d = 0 → bd17 q = d ∧ q = d.drop 3) := by
  have e1 : h167 ((id : Int), nI d) 3 = some (to17 3 id d : Int) := h167_is (k := 3) hd
  by_cases h : to17 3 id d = 0
  · obtain ⟨h1, h2, h3, h4⟩ := to17_ok (by omega) (by omega) h
    obtain ⟨h4, h5, h6⟩ := h4 (by omega)
    have h2' : 100 ≤ d.length := h2
    have h3' : d.length ≤ 100 := h3
    have hl : d.length = 100 := by omega
    refine ⟨d.drop 3, ?_, by simp; omega, fun _ => ⟨head3 h4, rfl⟩⟩
    rw [h] at e1 ⊢
    rw [as_drop (k := 3) (n := 97) hl]
    rw [as_map hl] at e1 ⊢
    exact p154_fn _ e1
  · exact ⟨List.replicate 97 0, p154_bad (a := ((id : Int), nI d)) e1 (by omega), by simp, fun g => absurd g h⟩
def h155 (a : Int × List Int) := p155 h167 0 a
theorem E155 : EntOK FT XT 155 (en155 h155) := ok155 h167 E167 fun _ _ h => ⟨0, h⟩
theorem h155_is {id : Nat} {d : List Nat} (hd : bel 256 d) : ∃ q : List Nat, h155 ((id : Int), nI d) = some (nI q, (to17 4 id d : Int)) ∧ q.length = 33 ∧ (to17 4 id d = 0 → bd17 q = d ∧ q = d.drop 3) := by
  have e1 : h167 ((id : Int), nI d) 4 = some (to17 4 id d : Int) := h167_is (k := 4) hd
  by_cases h : to17 4 id d = 0
  · obtain ⟨h1, h2, h3, h4⟩ := to17_ok (by omega) (by omega) h
    obtain ⟨h4, h5, h6⟩ := h4 (by omega)
    have h2' : 36 ≤ d.length := h2
    have h3' : d.length ≤ 36 := h3
    have hl : d.length = 36 := by omega
    refine ⟨d.drop 3, ?_, by simp; omega, fun _ => ⟨head3 h4, rfl⟩⟩
    rw [h] at e1 ⊢
    rw [as_drop (k := 3) (n := 33) hl]
    rw [as_map hl] at e1 ⊢
    exact p155_fn _ e1
  · exact ⟨List.replicate 33 0, p155_bad (a := ((id : Int), nI d)) e1 (by omega), by simp, fun g => absurd g h⟩
/-! ### a probe -/
def f138 : Option Bool := some true
theorem E138 : EntOK FT XT 138 (en138 f138) := ok138 h157 h139 h142 h156 h149 h155 h144 E157 E139 E142 E156 E149 E155 E144 fun r h => ⟨0, by rw [← h]; kernel_rfl⟩
/-! ### laws -/
section
variable {c138 : Option Bool} {c140 : Int × (List Int) → Option (Int × (List Int))} {c139 c141 : Int × (List Int) → Option ((List Int) × Int)} {c142 c143 : List Int → Option ((Int × (List Int)) × Int × Int)} {c23 : List Int → List Int → Option Bool} {c144 : Int × (List Int) → Int × (List Int) → Option Bool} {c145 c146 : Int × (List Int) → Option Int}
theorem p124_is {N : Nat} {a : Int × List Int} {b l : List Int} {e c : Int} {P Q : (Int × List Int) × Int × Int} (A : c138 = some true) (F140 : ∀ a, c140 a = some a)
    (F : a.2.length ≤ 5000 → b.length ≤ 5000 → c139 a = some (l, e) ∧ c141 a = some (l, e) ∧ c142 b = some P ∧ c143 b = some P ∧ c142 (l ++ b) = some Q ∧ l.length ≤ 10000 ∧ c23 l l = some true ∧ c144 P.1 P.1 = some true ∧ c145 a = some c ∧ c146 a = some c ∧ (e = 0 → c144 Q.1 a = some true ∧ Q.2.1 = ((l.length : Nat) : Int) ∧ Q.2.2 = 0)) : p124 c138 c140 c139 c141 c142 c143 c23 c144 c145 c146 N a b = some true := by
  obtain ⟨a1, a2⟩ := a
  unfold p124
  by_cases h1 : a2.length ≤ 5000
  · by_cases h2 : b.length ≤ 5000
    · obtain ⟨f1, f2, f3, f4, f5, f6, f7, f8, f9, f10, f11⟩ := F h1 h2
      obtain ⟨P1, P2, P3⟩ := P
      obtain ⟨Q1, Q2, Q3⟩ := Q
      have ht : List.take (l.length + b.length) (List.drop 0 (l ++ b)) = l ++ b := by rw [List.drop_zero, List.take_of_length_le (by simp)]
      simp only [] at f8
      simp only [A, F140, f1, f2, f3, f4, ht, f5, f7, f8, f9, f10, beq_self_eq_true, cond_true]
      rw [show decide (((List.length a2 : Nat) : Int) > 5000) = false from decide_eq_false (by omega), show decide (((List.length b : Nat) : Int) > 5000) = false from decide_eq_false (by omega), show decide (l.length * 1 ≤ 1099511627776) = true from decide_eq_true (by omega), show decide (l.length ≤ 1099511627776) = true from decide_eq_true (by omega), show (l.length == l.length * 1) = true from beq_iff_eq.2 (by omega), show decide ((l.length + b.length) * 1 ≤ 1099511627776) = true from decide_eq_true (by omega), show decide (l.length + b.length ≤ 1099511627776) = true from decide_eq_true (by omega), show decide (0 + (l.length + b.length) * 1 ≤ (l ++ b).length) = true from decide_eq_true (by rw [List.length_append]; omega)]
      simp only [cond_false, cond_true, Bool.and_self]
      by_cases he : e = 0
      · obtain ⟨g1, g2, g3⟩ := f11 he
        simp only [] at g1 g2 g3
        subst he
        simp only [g1, g2, g3, bne_self_eq_false, cond_false, beq_self_eq_true, cond_true]
      · rw [show (e != 0) = true from bne_iff_ne.2 he, cond_true]
    · rw [show decide (((List.length b : Nat) : Int) > 5000) = true from decide_eq_true (by omega), cond_true, A]
      cases decide (((List.length a2 : Nat) : Int) > 5000) <;> rfl
  · rw [show decide (((List.length a2 : Nat) : Int) > 5000) = true from decide_eq_true (by omega), cond_true, A]
end
def f124 (a : Int × List Int) (b : List Int) : Option Bool := p124 f138 h140 h139 h141 h142 h143 f23 h144 h145 h146 0 a b
theorem E124 : EntOK FT XT 124 (en124 f124) := ok124 f138 h140 h139 h141 h142 h143 f23 h144 h145 h146 E138 E140 E139 E141 E142 E143 E23 E144 E145 E146 fun _ _ _ h => ⟨0, h⟩
theorem wf8 {x : Int} (h : (Lit.int .u8 x).wf = true) : ∃ n : Nat, x = (n : Int) ∧ n < 256 := by
  obtain ⟨h1, h2⟩ := wf_u (k := .u8) rfl h
  exact ⟨x.toNat, by omega, by have : x < 256 := h2; omega⟩
theorem law124 (z0 : Int × List Int) (z1 : List Int) (h0 : (Lit.int .u8 z0.1).wf = true ∧ z0.2.length ≤ maxLen ∧ ∀ x ∈ z0.2, (Lit.int .u8 x).wf = true) (h1 : z1.length ≤ maxLen ∧ ∀ x ∈ z1, (Lit.int .u8 x).wf = true) : Ans FT XT 124 (encL [Sh.st (Sh.pr (.int .u8) (Sh.sl (.int .u8))), Sh.sl (.int .u8)] (z0, (z1, ()))) [] (.bool true) [] := by
  obtain ⟨a, b⟩ := z0
  obtain ⟨id, rfl, hi⟩ := wf8 h0.1
  obtain ⟨d, rfl, hd⟩ := wf8s h0.2.2
  obtain ⟨b, rfl, hb⟩ := wf8s h1.2
  refine E124.2 (((id : Int), nI d), (nI b, ())) true (p124_is (N := 0) (l := nI (lay17 id d).1) (e := ((lay17 id d).2 : Int)) (c := (check17 id d : Int)) (P := enP (parse17 b)) (Q := enP (parse17 ((lay17 id d).1 ++ b))) rfl h140_is (fun g1 g2 => ?_))
  rw [nI_len] at g1 g2
  have hl := lay17_len id d
  refine ⟨h139_is (by omega), h141_is (by omega), h142_is hb (by omega), h143_is hb (by omega), by rw [nI_app]; exact h142_is (bel_app (lay17_bel hi hd) hb) (by rw [List.length_append]; omega), by rw [nI_len]; omega, f23_same (by rw [nI_len]; omega), h144_same (parse17_bel hb), h145_is hd, h146_is hd, fun he => ?_⟩
  rw [back17 hd (show (lay17 id d).2 = 0 by omega)]
  exact ⟨h144_same hd, by rw [nI_len]; rfl, rfl⟩
section
variable {c138 : Option Bool} {c140 : Int × (List Int) → Option (Int × (List Int))} {c156 : Int × (List Int) → Option (Int × Int)} {c153 : Int × (List Int) → Option ((Int × Int × (List Int)) × Int)} {c154 c155 : Int × (List Int) → Option ((List Int) × Int)} {c158 : Int × (List Int) → Int → Option Int} {c157 : Int → Option (Int × (List Int))} {c144 : Int × (List Int) → Int × (List Int) → Option Bool} {c147 : Int × Int × (List Int) → Option (Int × (List Int))} {c148 c149 : List Int → Option (Int × (List Int))}
theorem p126_is {N : Nat} {a : Int × List Int} {n e1 e2 e3 e4 : Int} {s : Int × Int × List Int} {q r : List Int} (A : c138 = some true) (F140 : ∀ a, c140 a = some a) (F156 : c156 a = some (n, e1)) (F153 : c153 a = some (s, e2)) (F154 : c154 a = some (q, e3)) (F155 : c155 a = some (r, e4)) (hq : q.length = 97) (hr : r.length = 33)
    (F1 : c158 a 1 = some e1) (F2 : c158 a 2 = some e2) (F3 : c158 a 3 = some e3) (F4 : c158 a 4 = some e4) (G1 : e1 = 0 → c157 n = some a) (G2 : e2 = 0 → c147 s = some a) (G3 : e3 = 0 → c148 q = some a) (G4 : e4 = 0 → c149 r = some a) (F144 : c144 a a = some true) :
    p126 c138 c140 c156 c153 c154 c155 c158 c149 c144 c148 c147 c157 N a = some true := by
  obtain ⟨a1, a2⟩ := a
  obtain ⟨s1, s2, s3⟩ := s
  unfold p126
  generalize hz : [(0 : Int), 0, 0, 0, 0, 0, 0, 0, 0, 0, 0, 0, 0, 0, 0, 0, 0, 0, 0, 0, 0, 0, 0, 0, 0, 0, 0, 0, 0, 0, 0, 0, 0, 0, 0, 0, 0, 0, 0, 0, 0, 0, 0, 0, 0, 0, 0, 0, 0, 0, 0, 0, 0, 0, 0, 0, 0, 0, 0, 0, 0, 0, 0, 0, 0, 0, 0, 0, 0, 0, 0, 0, 0, 0, 0, 0, 0, 0, 0, 0, 0, 0, 0, 0, 0, 0, 0, 0, 0, 0, 0, 0, 0, 0, 0, 0, 0] = z97
  generalize hw : [(0 : Int), 0, 0, 0, 0, 0, 0, 0, 0, 0, 0, 0, 0, 0, 0, 0, 0, 0, 0, 0, 0, 0, 0, 0, 0, 0, 0, 0, 0, 0, 0, 0, 0] = z33
  have r97 : ([] ++ q) ++ List.drop (0 + q.length) z97 = q := row_in (k := 97) hq (by rw [← hz]; rfl)
  have r33 : ([] ++ r) ++ List.drop (0 + r.length) z33 = r := row_in (k := 33) hr (by rw [← hw]; rfl)
  have t97 : List.take 97 (List.drop 0 q) = q := tk0 _ (by omega)
  have t33 : List.take 33 (List.drop 0 r) = r := tk0 _ (by omega)
  simp only [A, F140, F156, F153, F154, F155, F1, F2, F3, F4, r97, r33, t97, t33, F144, bne_self_eq_false, cond_false, cond_true]
  simp only [hq, hr, beq_self_eq_true, cond_true, Nat.zero_add, Nat.le_refl, decide_true]
  have key : (bif decide (((List.length a2 : Nat) : Int) > 5000) then some true else some true : Option Bool) = some true := by cases decide (((List.length a2 : Nat) : Int) > 5000) <;> rfl
  by_cases g1 : e1 = 0 <;> by_cases g2 : e2 = 0 <;> by_cases g3 : e3 = 0 <;> by_cases g4 : e4 = 0 <;>
    simp only [g1, g2, g3, g4, G1, G2, G3, G4, F144, bne_self_eq_false, bne_iff_ne, ne_eq, not_false_eq_true, cond_false, cond_true, show ∀ x : Int, ¬ x = 0 → (x != 0) = true from fun x h => bne_iff_ne.2 h, key]
end
def f126 (a : Int × List Int) : Option Bool := p126 f138 h140 h156 h153 h154 h155 h158 h149 h144 h148 h147 h157 0 a
theorem E126 : EntOK FT XT 126 (en126 f126) := ok126 f138 h140 h156 h153 h154 h155 h158 h149 h144 h148 h147 h157 E138 E140 E156 E153 E154 E155 E158 E149 E144 E148 E147 E157 fun _ _ h => ⟨0, h⟩
theorem f126_is {id : Nat} {d : List Nat} (hd : bel 256 d) : f126 ((id : Int), nI d) = some true := by
  obtain ⟨n, n1, n2, n3⟩ := h156_is (id := id) hd
  obtain ⟨ab, co, de, s1, s2, s3, s4, s5⟩ := h153_is (id := id) hd
  obtain ⟨q, q1, q2, q3⟩ := h154_is (id := id) hd
  obtain ⟨r, r1, r2, r3⟩ := h155_is (id := id) hd
  have one : ∀ k : Nat, 1 ≤ k → k ≤ 4 → ((to17 k id d : Nat) : Int) = 0 → to17 k id d = 0 ∧ (k : Int) = (id : Int) := fun k h1 h4 h => by
    have h0 : to17 k id d = 0 := by omega
    have := (to17_ok h1 h4 h0).1
    exact ⟨h0, by omega⟩
  refine p126_is (a := ((id : Int), nI d)) rfl h140_is n1 s1 q1 r1 (by rw [nI_len]; exact q2) (by rw [nI_len]; exact r2) (h158_is (k := 1) hd) (h158_is (k := 2) hd) (h158_is (k := 3) hd) (h158_is (k := 4) hd) (fun h => ?_) (fun h => ?_) (fun h => ?_) (fun h => ?_) (h144_same hd)
  · obtain ⟨g1, g2⟩ := one 1 (by omega) (by omega) h
    rw [h157_is n2, n3 g1, ← g2]; rfl
  · obtain ⟨g1, g2⟩ := one 2 (by omega) (by omega) h
    rw [h147_is s2, (s5 g1).1, ← g2]; rfl
  · obtain ⟨g1, g2⟩ := one 3 (by omega) (by omega) h
    rw [h148_is q2, (q3 g1).1, ← g2]; rfl
  · obtain ⟨g1, g2⟩ := one 4 (by omega) (by omega) h
    rw [h149_is r2, (r3 g1).1, ← g2]; rfl
theorem law126 (z0 : Int × List Int) (h0 : (Lit.int .u8 z0.1).wf = true ∧ z0.2.length ≤ maxLen ∧ ∀ x ∈ z0.2, (Lit.int .u8 x).wf = true) : Ans FT XT 126 (encL [Sh.st (Sh.pr (.int .u8) (Sh.sl (.int .u8)))] (z0, ())) [] (.bool true) [] := by
  obtain ⟨a, b⟩ := z0
  obtain ⟨id, rfl, hi⟩ := wf8 h0.1
  obtain ⟨d, rfl, hd⟩ := wf8s h0.2.2
  exact E126.2 (((id : Int), nI d), ()) true (f126_is hd)
section
variable {c138 : Option Bool} {c140 : Int × (List Int) → Option (Int × (List Int))} {c156 : Int × (List Int) → Option (Int × Int)} {c153 : Int × (List Int) → Option ((Int × Int × (List Int)) × Int)} {c154 c155 : Int × (List Int) → Option ((List Int) × Int)} {c157 : Int → Option (Int × (List Int))} {c144 : Int × (List Int) → Int × (List Int) → Option Bool} {c147 : Int × Int × (List Int) → Option (Int × (List Int))} {c148 c149 : List Int → Option (Int × (List Int))}
  {c150 : Int → Int → List Int → Option (Int × (List Int))} {c151 : Int → List Int → List Int → List Int → Option (Int × (List Int))} {c152 : Int → List Int → Option (Int × (List Int))} {c23 : List Int → List Int → Option Bool}
theorem p125_is {N : Nat} {ab co : Int} {de x y : List Int} {B C D : Int × List Int} {p : Int × Int × List Int} {q r : List Int} {e f g x0 y0 : Int} {AA : Int × List Int} {m : Nat} (A : c138 = some true) (F140 : ∀ a, c140 a = some a) (hm : (if 64 < ((de.length : Nat) : Int) then 64 else ((de.length : Nat) : Int)) = (m : Int)) (hm2 : m ≤ de.length)
    (hx : x.length = 97) (hy : y.length = 33) (x00 : x[0]? = some x0) (y00 : y[0]? = some y0)
    (F147 : c147 (ab, (co, de)) = some AA) (F148 : c148 x = some B) (F149 : c149 y = some C) (F150 : c150 ab co de = some AA) (F151 : c151 x0 (List.take 32 (List.drop 1 x)) (List.take 32 (List.drop 33 x)) (List.take 32 (List.drop 65 x)) = some B) (F152 : c152 y0 (List.take 32 (List.drop 1 y)) = some C)
    (FA : c144 AA AA = some true) (FB : c144 B B = some true) (FC : c144 C C = some true) (F153 : c153 AA = some (p, e)) (F154 : c154 B = some (q, f)) (F155 : c155 C = some (r, g)) (hq : q.length = 97) (hr : r.length = 33)
    (C1 : (e == 0) = decide (ab ≤ 4)) (C2 : (f == 0) = (x0 == 1 || x0 == 2)) (C3 : (g == 0) = (decide (y0 ≥ 1) && decide (y0 ≤ 3))) (F157 : c157 (IntKind.wrap .u16 co) = some D) (F156 : c156 D = some (IntKind.wrap .u16 co, 0))
    (G1 : e = 0 → p.1 = ab ∧ p.2.1 = co ∧ c23 p.2.2 (List.take m de) = some true) (G2 : f = 0 → q = x) (G3 : g = 0 → r = y) : p125 c138 c147 c148 c149 c150 c140 c144 c151 c152 c153 c154 c155 c157 c156 c23 N (ab, (co, de)) x y = some true := by
  obtain ⟨A1, A2⟩ := AA
  obtain ⟨B1, B2⟩ := B
  obtain ⟨C1', C2'⟩ := C
  obtain ⟨D1, D2⟩ := D
  obtain ⟨p1, p2, p3⟩ := p
  unfold p125
  generalize hz : [(0 : Int), 0, 0, 0, 0, 0, 0, 0, 0, 0, 0, 0, 0, 0, 0, 0, 0, 0, 0, 0, 0, 0, 0, 0, 0, 0, 0, 0, 0, 0, 0, 0, 0, 0, 0, 0, 0, 0, 0, 0, 0, 0, 0, 0, 0, 0, 0, 0, 0, 0, 0, 0, 0, 0, 0, 0, 0, 0, 0, 0, 0, 0, 0, 0, 0, 0, 0, 0, 0, 0, 0, 0, 0, 0, 0, 0, 0, 0, 0, 0, 0, 0, 0, 0, 0, 0, 0, 0, 0, 0, 0, 0, 0, 0, 0, 0, 0] = z97
  generalize hw : [(0 : Int), 0, 0, 0, 0, 0, 0, 0, 0, 0, 0, 0, 0, 0, 0, 0, 0, 0, 0, 0, 0, 0, 0, 0, 0, 0, 0, 0, 0, 0, 0, 0, 0] = z33
  have r97 : ([] ++ q) ++ List.drop (0 + q.length) z97 = q := row_in (k := 97) hq (by rw [← hz]; rfl)
  have r33 : ([] ++ r) ++ List.drop (0 + r.length) z33 = r := row_in (k := 33) hr (by rw [← hw]; rfl)
  have t97 : List.take 97 (List.drop 0 q) = q := tk0 _ (by omega)
  have t33 : List.take 33 (List.drop 0 r) = r := tk0 _ (by omega)
  have tx : List.take 97 (List.drop 0 x) = x := tk0 _ (by omega)
  have ty : List.take 33 (List.drop 0 y) = y := tk0 _ (by omega)
  simp only [A, F140, hm, tx, ty, x00, y00, F147, F148, F149, F150, F151, F152, FA, FB, FC, F153, F154, F155, F157, F156, r97, r33, t97, t33, Bool.not_true, cond_false, cond_true, beq_self_eq_true, bne_self_eq_false]
  simp only [hx, hy, hq, hr, Nat.zero_add, Nat.le_refl, decide_true, cond_true, beq_self_eq_true, Bool.and_self, show decide (33 ≤ 97) = true from rfl, show decide (65 ≤ 97) = true from rfl, C1, C2, C3, Int.toNat_natCast, show decide ((0 : Int) ≤ (m : Int)) = true from decide_eq_true (by omega), show decide ((m : Int) ≤ ((de.length : Nat) : Int)) = true from decide_eq_true (by omega)]
  simp only [bne, C1, C2, C3]
  have G1' : decide (ab ≤ 4) = true → p1 = ab ∧ p2 = co ∧ c23 p3 (List.take m de) = some true := fun h => G1 (eq_of_beq (C1.trans h))
  have G2' : (x0 == 1 || x0 == 2) = true → q = x := fun h => G2 (eq_of_beq (C2.trans h))
  have G3' : (decide (y0 ≥ 1) && decide (y0 ≤ 3)) = true → r = y := fun h => G3 (eq_of_beq (C3.trans h))
  have e1 : (D1 == D1) = true := beq_self_eq_true _
  clear C1 C2 C3 G1 G2 G3 F153 F154 F155 F147 F148 F149 F150 F151 F152 FA FB FC F157 F156 r97 r33 t97 t33 tx ty hz hw x00 y00
  generalize decide (ab ≤ 4) = b1 at *
  generalize (x0 == 1) = b2 at *
  generalize (x0 == 2) = b3 at *
  generalize decide (y0 ≥ 1) = b4 at *
  generalize decide (y0 ≤ 3) = b5 at *
  cases hl : decide (((List.length de : Nat) : Int) > 300)
  · cases b1 <;> cases b2 <;> cases b3 <;> cases b4 <;> cases b5 <;> simp_all
  · rfl
end
theorem be4_inj {a b : Nat} (ha : a < 4294967296) (hb : b < 4294967296) (h : be4 a = be4 b) : a = b := by
  simp only [be4, List.cons.injEq, and_true] at h
  omega
theorem be2_inj {a b : Nat} (ha : a < 65536) (hb : b < 65536) (h : be2 a = be2 b) : a = b := by
  simp only [be2, List.cons.injEq, and_true] at h
  omega
theorem st17_len (ab co : Nat) (de : List Nat) : (st17 ab co de).length = 8 + min de.length 64 := by simp [st17, be4]; omega
theorem st17_ok (ab co : Nat) (de : List Nat) : (to17 2 2 (st17 ab co de) = 0 ↔ ab ≤ 4) := by
  have hl := st17_len ab co de
  unfold to17 check17
  rw [if_pos rfl, if_neg (by decide), if_neg (by rw [show (lim17 2).1 = 8 from rfl]; omega), if_neg (by rw [show (lim17 2).2.1 = 72 from rfl]; omega), if_neg (by decide)]
  have e1 : (st17 ab co de).take 3 = [0, 0, 0] := rfl
  have e2 : gt (st17 ab co de) 3 = ab := rfl
  rw [e1, e2, show (lim17 2).2.2.1 = 0 from rfl, show (lim17 2).2.2.2 = 4 from rfl]
  split <;> rename_i h
  · exact ⟨fun _ => h.2.2, fun _ => rfl⟩
  · exact ⟨(fun g => by cases g), fun g => absurd ⟨rfl, Nat.zero_le _, g⟩ h⟩
theorem bd17_ok {k a b : Nat} {x : List Nat} (hk : k = 3 ∧ a = 1 ∧ b = 2 ∧ x.length = 97 ∨ k = 4 ∧ a = 1 ∧ b = 3 ∧ x.length = 33) : (to17 k k (bd17 x) = 0 ↔ a ≤ gt x 0 ∧ gt x 0 ≤ b) := by
  have e1 : (bd17 x).take 3 = [0, 0, 0] := rfl
  have e2 : gt (bd17 x) 3 = gt x 0 := rfl
  have hl : (bd17 x).length = x.length + 3 := rfl
  unfold to17 check17
  rcases hk with ⟨rfl, rfl, rfl, hx⟩ | ⟨rfl, rfl, rfl, hx⟩
  · rw [if_pos rfl, if_neg (by decide), if_neg (by rw [show (lim17 3).1 = 100 from rfl]; omega), if_neg (by rw [show (lim17 3).2.1 = 100 from rfl]; omega), if_neg (by decide), e1, e2, show (lim17 3).2.2.1 = 1 from rfl, show (lim17 3).2.2.2 = 2 from rfl]
    split <;> rename_i h
    · exact ⟨fun _ => h.2, fun _ => rfl⟩
    · exact ⟨(fun g => by cases g), fun g => absurd ⟨rfl, g⟩ h⟩
  · rw [if_pos rfl, if_neg (by decide), if_neg (by rw [show (lim17 4).1 = 36 from rfl]; omega), if_neg (by rw [show (lim17 4).2.1 = 36 from rfl]; omega), if_neg (by decide), e1, e2, show (lim17 4).2.2.1 = 1 from rfl, show (lim17 4).2.2.2 = 3 from rfl]
    split <;> rename_i h
    · exact ⟨fun _ => h.2, fun _ => rfl⟩
    · exact ⟨(fun g => by cases g), fun g => absurd ⟨rfl, g⟩ h⟩
theorem st17_bel {ab co : Nat} {de : List Nat} (ha : ab < 256) (hd : bel 256 de) : bel 256 (st17 ab co de) := bel_app (fun x hx => by simp at hx; omega) (bel_app (be4_bel _) (bel_take hd))
theorem bd17_bel {x : List Nat} (h : bel 256 x) : bel 256 (bd17 x) := fun y hy => by
  simp [bd17] at hy
  rcases hy with rfl | hy
  · omega
  · exact h y hy
theorem parts3 {α : Type} {x : List α} (h : x.length = 97) : (x.drop 1).take 32 ++ ((x.drop 33).take 32 ++ (x.drop 65).take 32) = x.drop 1 := by
  have e1 : x.drop 33 = (x.drop 1).drop 32 := by rw [List.drop_drop]
  have e2 : x.drop 65 = ((x.drop 1).drop 32).drop 32 := by rw [List.drop_drop, List.drop_drop]
  have e3 : ((x.drop 1).drop 32).drop 32 = (((x.drop 1).drop 32).drop 32).take 32 := by rw [List.take_of_length_le (by simp; omega)]
  rw [e1, e2, ← e3, List.take_append_drop, List.take_append_drop]
theorem cons0 {x : List Nat} (h : 0 < x.length) : gt x 0 :: x.drop 1 = x := by
  match x, h with
  | a :: t, _ => rfl
def f125 (a : Int × Int × List Int) (x y : List Int) : Option Bool := p125 f138 h147 h148 h149 h150 h140 h144 h151 h152 h153 h154 h155 h157 h156 f23 0 a x y
theorem E125 : EntOK FT XT 125 (en125 f125) := ok125 f138 h147 h148 h149 h150 h140 h144 h151 h152 h153 h154 h155 h157 h156 f23 E138 E147 E148 E149 E150 E140 E144 E151 E152 E153 E154 E155 E157 E156 E23 fun _ _ _ _ h => ⟨0, h⟩
theorem f125_is {ab co : Nat} {de x y : List Nat} (ha : ab < 256) (hc : co < 4294967296) (hd : bel 256 de) (hx : x.length = 97) (hy : y.length = 33) (bx : bel 256 x) (by_ : bel 256 y) : f125 ((ab : Int), ((co : Int), nI de)) (nI x) (nI y) = some true := by
  obtain ⟨ab', co', de', s1, s2, s3, s4, s5⟩ := h153_is (id := 2) (st17_bel (co := co) ha hd)
  obtain ⟨q, q1, q2, q3⟩ := h154_is (id := 3) (bd17_bel bx)
  obtain ⟨r, r1, r2, r3⟩ := h155_is (id := 4) (bd17_bel by_)
  have hw : IntKind.wrap .u16 (co : Int) = ((co % 65536 : Nat) : Int) := w16 co
  obtain ⟨n, n1, n2, n3⟩ := h156_is (id := 1) (be2_bel (co % 65536))
  have h0 : to17 1 1 (be2 (co % 65536)) = 0 := rfl
  have hn : n = co % 65536 := be2_inj n2 (by omega) (n3 h0)
  subst hn
  have ex : nI ([0, 0, 0, gt x 0] ++ ((x.drop 1).take 32 ++ ((x.drop 33).take 32 ++ (x.drop 65).take 32))) = nI (bd17 x) := by
    rw [parts3 hx]
    have := cons0 (x := x) (by omega)
    show nI (0 :: 0 :: 0 :: (gt x 0 :: x.drop 1)) = _
    rw [this]; rfl
  have ey : nI ([0, 0, 0, gt y 0] ++ (y.drop 1).take 32) = nI (bd17 y) := by
    rw [List.take_of_length_le (by simp; omega)]
    have := cons0 (x := y) (by omega)
    show nI (0 :: 0 :: 0 :: (gt y 0 :: y.drop 1)) = _
    rw [this]; rfl
  have hbx := bx _ (gt_mem (show 0 < x.length by omega))
  refine p125_is (m := min de.length 64) rfl h140_is (by rw [nI_len]; exact min17 _) (by rw [nI_len]; exact Nat.min_le_left _ _) (by rw [nI_len]; exact hx) (by rw [nI_len]; exact hy) (gt0 (by omega)) (gt0 (by omega)) (h147_is hc) (h148_is hx) (h149_is hy) (h150_is hc) ?_ ?_
    (h144_same (p := 2) (st17_bel ha hd)) (h144_same (p := 3) (bd17_bel bx)) (h144_same (p := 4) (bd17_bel by_)) s1 q1 r1 (by rw [nI_len]; exact q2) (by rw [nI_len]; exact r2) ?_ ?_ ?_ (by rw [hw]; exact h157_is (by omega)) (by rw [hw]; rw [h0] at n1; exact n1) (fun g => ?_) (fun g => ?_) (fun g => ?_)
  · rw [nI_drop, nI_drop, nI_drop, nI_take, nI_take, nI_take, h151_is (by rw [List.length_take, List.length_drop]; omega) (by rw [List.length_take, List.length_drop]; omega) (by rw [List.length_take, List.length_drop]; omega), ex]
  · rw [nI_drop, nI_take, h152_is (by rw [List.length_take, List.length_drop]; omega), ey]
  · rw [Bool.eq_iff_iff, beq_iff_eq, decide_eq_true_eq]
    have := st17_ok ab co de
    omega
  · rw [Bool.eq_iff_iff, beq_iff_eq, Bool.or_eq_true, beq_iff_eq, beq_iff_eq]
    have := bd17_ok (k := 3) (a := 1) (b := 2) (.inl ⟨rfl, rfl, rfl, hx⟩)
    omega
  · rw [Bool.eq_iff_iff, beq_iff_eq, Bool.and_eq_true, decide_eq_true_eq, decide_eq_true_eq]
    have := bd17_ok (k := 4) (a := 1) (b := 3) (.inr ⟨rfl, rfl, rfl, hy⟩)
    omega
  · obtain ⟨g1, g2, g3, g4⟩ := s5 (by omega)
    have hco : co' = co := be4_inj s2 hc (g3.trans (by rfl))
    have hde : de' = de.take 64 := g4
    refine ⟨by rw [g2]; rfl, by rw [hco], ?_⟩
    show f23 (nI de') (List.take (min de.length 64) (nI de)) = some true
    rw [hde, nI_take, take_min]
    exact f23_same (by rw [nI_len, List.length_take]; omega)
  · rw [(q3 (by omega)).2]; rfl
  · rw [(r3 (by omega)).2]; rfl
theorem law125 (z0 : Int × Int × List Int) (z1 z2 : List Int) (h0 : (Lit.int .u8 z0.1).wf = true ∧ (Lit.int .u32 z0.2.1).wf = true ∧ z0.2.2.length ≤ maxLen ∧ ∀ x ∈ z0.2.2, (Lit.int .u8 x).wf = true) (h1 : ∀ x ∈ z1, (Lit.int .u8 x).wf = true) (h2 : ∀ x ∈ z2, (Lit.int .u8 x).wf = true) (hs1 : z1.length = 97) (hs2 : z2.length = 33) :
    Ans FT XT 125 (encL [Sh.st (Sh.pr (.int .u8) (Sh.pr (.int .u32) (Sh.sl (.int .u8)))), Sh.ar .u8, Sh.ar .u8] (z0, (z1, (z2, ())))) [] (.bool true) [] := by
  obtain ⟨a, b, c⟩ := z0
  obtain ⟨ab, rfl, ha⟩ := wf8 h0.1
  obtain ⟨k1, k2⟩ := wf_u (k := .u32) rfl h0.2.1
  obtain ⟨co, hco⟩ : ∃ n : Nat, b = (n : Int) := ⟨b.toNat, by simp only [] at k1; omega⟩
  subst hco
  obtain ⟨de, rfl, hd⟩ := wf8s h0.2.2.2
  obtain ⟨x, rfl, hx⟩ := wf8s h1
  obtain ⟨y, rfl, hy⟩ := wf8s h2
  rw [nI_len] at hs1 hs2
  exact E125.2 (((ab : Int), ((co : Int), nI de)), (nI x, (nI y, ()))) true (f125_is ha (by have : (co : Int) < 4294967296 := k2; omega) hd hs1 hs2 hx hy)
end Go.Proofs.YtjkdflcccoeggaaE
