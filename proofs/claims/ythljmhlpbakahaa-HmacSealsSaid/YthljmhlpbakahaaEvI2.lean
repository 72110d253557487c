/- HMAC: chains and laws. -/
import Derived.Test.YthljmhlpbakahaaEvI1
namespace Go.Proofs.YthljmhlpbakahaaE
open Go
set_option linter.unusedSimpArgs false
set_option linter.unusedVariables false
theorem nI_beq (a b : List Nat) : (nI a == nI b) = (a == b) := by
  by_cases h : a = b
  · rw [h, beq_self_eq_true, beq_self_eq_true]
  · rw [beq_eq_false_iff_ne.2 h, beq_eq_false_iff_ne.2 (fun hh => h (nI_inj hh))]
/-! ### whether it is the seal -/
section
variable {c223 : List Int → List (List Int) → Option (List Int)} {c47 : List Int → List Int → Option Bool} {c222 : List Int → List Int → Option (List Int)}
theorem p226_is {N : Nat} {k m a : List Nat} {ll : List (List Int)} (F : c223 (nI k) ll = some (nI (hm k m))) (F47 : c47 (nI (hm k m)) (nI a) = some (hm k m == a)) : p226 c223 c47 N (nI k) (nI a) ll = some (hm k m == a) := by
  unfold p226
  have hd := hm_len k m
  have e := row_in (l := nI (hm k m)) (k := 32) (z := ([(0 : Int), (0 : Int), (0 : Int), (0 : Int), (0 : Int), (0 : Int), (0 : Int), (0 : Int), (0 : Int), (0 : Int), (0 : Int), (0 : Int), (0 : Int), (0 : Int), (0 : Int), (0 : Int), (0 : Int), (0 : Int), (0 : Int), (0 : Int), (0 : Int), (0 : Int), (0 : Int), (0 : Int), (0 : Int), (0 : Int), (0 : Int), (0 : Int), (0 : Int), (0 : Int), (0 : Int), (0 : Int)] : List Int)) (by rw [nI_len]; exact hd) rfl
  rw [F]
  simp only [e, t32 hd, F47]
  simp only [nI_len, hd, beq_self_eq_true, cond_true, Nat.zero_add, Nat.le_refl, decide_true]
/-! ### chains -/
def chn (k : List Nat) : Nat → List Nat
  | 0 => []
  | n + 1 => hm k (chn k n)
theorem chn_bel (k : List Nat) (n : Nat) : bel 256 (chn k n) := by
  cases n with
  | zero => exact fun x hx => by cases hx
  | succ n => exact hm_bel _ _
theorem chn_len (k : List Nat) (n : Nat) : (chn k n).length ≤ 32 := by
  cases n with
  | zero => exact Nat.zero_le _
  | succ n => rw [chn, hm_len]; exact Nat.le_refl _
theorem chn_len' (k : List Nat) (n : Nat) : (chn k (n + 1)).length = 32 := by rw [chn, hm_len]
def crow (k : List Nat) (n : Nat) : List (List Int) := (List.range n).map fun j => nI (chn k (j + 1))
theorem crow_len (k : List Nat) (n : Nat) : (crow k n).length = n := by unfold crow; rw [List.length_map, List.length_range]
theorem crow_get (k : List Nat) {n i : Nat} (h : i < n) : (crow k n)[i]? = some (nI (chn k (i + 1))) := by
  unfold crow
  rw [List.getElem?_map, List.getElem?_range h]
  rfl
def cv (k : List Nat) (n : Nat) : List V := (crow k n).map (V.tb (Sh.int .u8))
theorem cv_len (k : List Nat) (n : Nat) : (cv k n).length = n := by unfold cv; rw [List.length_map, crow_len]
theorem cv_succ (k : List Nat) (n : Nat) : cv k n ++ [V.tb (Sh.int .u8) (nI (chn k (n + 1)))] = cv k (n + 1) := by
  unfold cv crow
  rw [List.range_succ, List.map_append, List.map_append]
  rfl
theorem rows_tb : ∀ (L : List (List Int)) (n : Nat), L.length + 3 ≤ n → ofRows [] [] n (Sh.sl (Sh.int .u8)) L.length (L.map (V.tb (Sh.int .u8))) = some L
  | [], n, h => by
    obtain ⟨m, rfl⟩ : ∃ m, n = m + 1 := ⟨n - 1, by omega⟩
    rfl
  | x :: L, n, h => by
    obtain ⟨m, rfl⟩ : ∃ m, n = m + 3 := ⟨n - 3, by omega⟩
    have ih := rows_tb L (m + 2) (by rw [List.length_cons] at h; omega)
    rw [List.length_cons, List.map_cons]
    show ((ofCells [] [] (m + 2) (Sh.sl (Sh.int .u8)) (V.tb (Sh.int .u8) x :: L.map (V.tb (Sh.int .u8)))).bind fun p => (ofRows [] [] (m + 2) (Sh.sl (Sh.int .u8)) L.length p.2).map fun q => p.1 :: q) = _
    have e : ofCells [] [] (m + 2) (Sh.sl (Sh.int .u8)) (V.tb (Sh.int .u8) x :: L.map (V.tb (Sh.int .u8))) = some (x, L.map (V.tb (Sh.int .u8))) := rfl
    rw [e, Option.bind_some, ih]
    rfl
theorem cv_rows {k : List Nat} {n : Nat} (h : n ≤ 1000) : rowsOf (Sh.sl (Sh.int .u8)) n (cv k n) = some (crow k n) := by
  have := rows_tb (crow k n) 90000 (by rw [crow_len]; omega)
  rw [crow_len] at this
  exact this
theorem L227_0_is (N : Nat) (q : Nat → List V → Option (List (List Int))) (k : List Nat) (F : ∀ m, bel 256 m → m.length ≤ 5000 → c223 (nI k) [nI m] = some (nI (hm k m))) (c : Nat) (hc : c ≤ 32) : ∀ (d i fuel : Nat), i + d = c → d < fuel →
    L227_0 c223 N q fuel (nI k) i (nI (chn k i)) (c : Int) (i : Int) (cv k i) = q c (cv k c) := by
  intro d
  induction d with
  | zero =>
    intro i fuel hd hf
    obtain ⟨m, rfl⟩ : ∃ m, fuel = m + 1 := ⟨fuel - 1, by omega⟩
    obtain rfl : i = c := by omega
    simp only [L227_0, show ¬ ((i : Int) < (i : Int)) by omega, decide_false, cond_false]
  | succ d ih =>
    intro i fuel hd hf
    obtain ⟨m, rfl⟩ : ∃ m, fuel = m + 1 := ⟨fuel - 1, by omega⟩
    have hF := F (chn k i) (chn_bel k i) (by have := chn_len k i; omega)
    have hl := chn_len' k i
    rw [show hm k (chn k i) = chn k (i + 1) from rfl] at hF
    have e := row_in (l := nI (chn k (i + 1))) (k := 32) (z := ([(0 : Int), (0 : Int), (0 : Int), (0 : Int), (0 : Int), (0 : Int), (0 : Int), (0 : Int), (0 : Int), (0 : Int), (0 : Int), (0 : Int), (0 : Int), (0 : Int), (0 : Int), (0 : Int), (0 : Int), (0 : Int), (0 : Int), (0 : Int), (0 : Int), (0 : Int), (0 : Int), (0 : Int), (0 : Int), (0 : Int), (0 : Int), (0 : Int), (0 : Int), (0 : Int), (0 : Int), (0 : Int)] : List Int)) (by rw [nI_len]; exact hl) rfl
    simp only [L227_0, show ((i : Int) < (c : Int)) by omega, decide_true, cond_true, hF, e, t32 hl, cv_succ]
    simp only [nI_len, hl, beq_self_eq_true, cond_true, Nat.zero_add, Nat.le_refl, decide_true, cv_len, Nat.mul_one, show (i + 1) * 24 ≤ 1099511627776 by omega, show i + 1 ≤ 1099511627776 by omega, Bool.and_self]
    rw [up1 (by omega)]
    exact ih (i + 1) m (by omega) (by omega)
theorem L228_0_is (N : Nat) (q : Nat → List V → Option (List (List Int))) (k : List Nat) (F : ∀ m, bel 256 m → m.length ≤ 5000 → c222 (nI k) (nI m) = some (nI (hm k m))) (z : Int) (c : Nat) (hc : c ≤ 32) (hz : ∀ i : Nat, i < c ↔ ((i : Int) < z ∧ i < 32)) : ∀ (d i fuel : Nat), i + d = c → d < fuel →
    L228_0 c222 N q fuel (nI k) z i (nI (chn k i)) (i : Int) (cv k i) = q c (cv k c) := by
  intro d
  induction d with
  | zero =>
    intro i fuel hd hf
    obtain ⟨m, rfl⟩ : ∃ m, fuel = m + 1 := ⟨fuel - 1, by omega⟩
    obtain rfl : i = c := by omega
    have := hz i
    by_cases h1 : (i : Int) < z
    · have h2 : ¬ ((i : Int) < 32) := by omega
      simp only [L228_0, h1, h2, decide_true, decide_false, cond_true, cond_false]
    · simp only [L228_0, h1, decide_false, cond_false]
  | succ d ih =>
    intro i fuel hd hf
    obtain ⟨m, rfl⟩ : ∃ m, fuel = m + 1 := ⟨fuel - 1, by omega⟩
    have hF := F (chn k i) (chn_bel k i) (by have := chn_len k i; omega)
    have hl := chn_len' k i
    have hzi := (hz i).1 (by omega)
    rw [show hm k (chn k i) = chn k (i + 1) from rfl] at hF
    have e := row_in (l := nI (chn k (i + 1))) (k := 32) (z := ([(0 : Int), (0 : Int), (0 : Int), (0 : Int), (0 : Int), (0 : Int), (0 : Int), (0 : Int), (0 : Int), (0 : Int), (0 : Int), (0 : Int), (0 : Int), (0 : Int), (0 : Int), (0 : Int), (0 : Int), (0 : Int), (0 : Int), (0 : Int), (0 : Int), (0 : Int), (0 : Int), (0 : Int), (0 : Int), (0 : Int), (0 : Int), (0 : Int), (0 : Int), (0 : Int), (0 : Int), (0 : Int)] : List Int)) (by rw [nI_len]; exact hl) rfl
    simp only [L228_0, hzi.1, show (i : Int) < 32 by omega, decide_true, cond_true, hF, e, t32 hl, cv_succ]
    simp only [nI_len, hl, beq_self_eq_true, cond_true, Nat.zero_add, Nat.le_refl, decide_true, cv_len, Nat.mul_one, show (i + 1) * 24 ≤ 1099511627776 by omega, show i + 1 ≤ 1099511627776 by omega, Bool.and_self]
    rw [up1 (by omega)]
    exact ih (i + 1) m (by omega) (by omega)
def many (z : Int) : Nat := (if 32 < (if 0 > z then 0 else z) then 32 else (if 0 > z then 0 else z)).toNat
theorem many_le (z : Int) : many z ≤ 32 := by unfold many; split <;> split <;> omega
theorem many_is (z : Int) : (if 32 < (if 0 > z then 0 else z) then 32 else (if 0 > z then 0 else z)) = ((many z : Nat) : Int) := by unfold many; split <;> split <;> omega
theorem many_lt (z : Int) (i : Nat) : i < many z ↔ ((i : Int) < z ∧ i < 32) := by unfold many; split <;> split <;> omega
theorem p227_is {N : Nat} (hN : 40 < N) {k : List Nat} (F : ∀ m, bel 256 m → m.length ≤ 5000 → c223 (nI k) [nI m] = some (nI (hm k m))) (z : Int) : p227 c223 N (nI k) z = some (crow k (many z)) := by
  unfold p227
  have h32 := many_le z
  rw [many_is]
  refine (L227_0_is N _ k F (many z) h32 (many z) 0 N (by omega) (by omega)).trans ?_
  have e : List.take (many z * 1) (List.drop 0 (cv k (many z))) = cv k (many z) := by rw [List.drop_zero, List.take_of_length_le (by rw [cv_len]; omega)]
  simp only [e, cv_rows (k := k) (n := many z) (by omega)]
  simp only [cv_len, Nat.zero_add, Nat.mul_one, Nat.le_refl, decide_true, cond_true]
theorem p228_is {N : Nat} (hN : 40 < N) {k : List Nat} (F : ∀ m, bel 256 m → m.length ≤ 5000 → c222 (nI k) (nI m) = some (nI (hm k m))) (z : Int) : p228 c222 N (nI k) z = some (crow k (many z)) := by
  unfold p228
  have h32 := many_le z
  refine (L228_0_is N _ k F z (many z) h32 (many_lt z) (many z) 0 N (by omega) (by omega)).trans ?_
  have e : List.take (many z * 1) (List.drop 0 (cv k (many z))) = cv k (many z) := by rw [List.drop_zero, List.take_of_length_le (by rw [cv_len]; omega)]
  simp only [e, cv_rows (k := k) (n := many z) (by omega)]
  simp only [cv_len, Nat.zero_add, Nat.mul_one, Nat.le_refl, decide_true, cond_true]
end
def h226 (a b : List Int) (l : List (List Int)) := p226 h223 h47 0 a b l
theorem E226 : EntOK FT XT 226 (en226 h226) := ok226 h223 h47 E223 E47 fun _ _ _ _ h => ⟨0, h⟩
theorem h226_is {k m a : List Nat} {ll : List (List Int)} (hk : bel 256 k) (hkl : k.length ≤ 6000) (hm1 : bel 256 m) (hml : m.length ≤ 5000) (hfl : ll.flatten = nI m) (hll : ll.length ≤ 1000) (ha : bel 256 a) : h226 (nI k) (nI a) ll = some (hm k m == a) :=
  p226_is (h223_is hk hkl hm1 hml hfl hll) (h47_is (hm_bel _ _) ha (by rw [hm_len]; omega))
def h227 (a : List Int) (z : Int) := p227 h223 100 a z
theorem E227 : EntOK FT XT 227 (en227 h227) := ok227 h223 E223 fun _ _ _ h => ⟨100, h⟩
theorem h227_is {k : List Nat} (hk : bel 256 k) (hkl : k.length ≤ 6000) (z : Int) : h227 (nI k) z = some (crow k (many z)) := p227_is (by omega) (fun m h1 h2 => h223_is hk hkl h1 h2 (by simp) (by simp)) z
def h228 (a : List Int) (z : Int) := p228 h222 100 a z
theorem E228 : EntOK FT XT 228 (en228 h228) := ok228 h222 E222 fun _ _ _ h => ⟨100, h⟩
theorem h228_is {k : List Nat} (hk : bel 256 k) (hkl : k.length ≤ 6000) (z : Int) : h228 (nI k) z = some (crow k (many z)) := p228_is (by omega) (fun m h1 h2 => h222_is hk hkl h1 h2) z
/-! ### a probe -/
theorem hm0 : hm [] [] = [182, 19, 103, 154, 8, 20, 217, 236, 119, 47, 149, 215, 120, 195, 95, 197, 255, 22, 151, 196, 147, 113, 86, 83, 198, 199, 18, 20, 66, 146, 197, 173] := by kernel_rfl
theorem p221_is {c223 : List Int → List (List Int) → Option (List Int)} {c226 : List Int → List Int → List (List Int) → Option Bool} {c227 : List Int → Int → Option (List (List Int))} {L : List (List Int)}
    (F1 : c223 [] [] = some (nI (hm [] []))) (F2 : ∀ a, bel 256 a → c226 [] (nI a) [] = some (hm [] [] == a)) (F3 : c227 [] 2 = some L) (hL : L.length = 2) : p221 c223 c226 c227 0 = some true := by
  unfold p221
  have hd := hm_len [] []
  have e := row_in (l := nI (hm [] [])) (k := 32) (z := ([(0 : Int), (0 : Int), (0 : Int), (0 : Int), (0 : Int), (0 : Int), (0 : Int), (0 : Int), (0 : Int), (0 : Int), (0 : Int), (0 : Int), (0 : Int), (0 : Int), (0 : Int), (0 : Int), (0 : Int), (0 : Int), (0 : Int), (0 : Int), (0 : Int), (0 : Int), (0 : Int), (0 : Int), (0 : Int), (0 : Int), (0 : Int), (0 : Int), (0 : Int), (0 : Int), (0 : Int), (0 : Int)] : List Int)) (by rw [nI_len]; exact hd) rfl
  have g1 := F2 (hm [] []) (hm_bel _ _)
  have g2 := F2 ((hm [] []).take 31) (bel_take (hm_bel _ _))
  rw [beq_self_eq_true] at g1
  rw [hm0] at *
  rw [F1]
  simp only [e]
  exact (show (match c226 [] (nI [182, 19, 103, 154, 8, 20, 217, 236, 119, 47, 149, 215, 120, 195, 95, 197, 255, 22, 151, 196, 147, 113, 86, 83, 198, 199, 18, 20, 66, 146, 197, 173]) [] with
    | none => none
    | some r6 => bif r6 then (match c226 [] (nI [182, 19, 103, 154, 8, 20, 217, 236, 119, 47, 149, 215, 120, 195, 95, 197, 255, 22, 151, 196, 147, 113, 86, 83, 198, 199, 18, 20, 66, 146, 197]) [] with
      | none => none
      | some r7 => bif (!r7) then (match c227 [] 2 with | none => none | some r8 => some (((r8.length : Nat) : Int) == 2)) else some false) else some false) = some true by
    rw [g1]
    have g3 : c226 [] (nI [182, 19, 103, 154, 8, 20, 217, 236, 119, 47, 149, 215, 120, 195, 95, 197, 255, 22, 151, 196, 147, 113, 86, 83, 198, 199, 18, 20, 66, 146, 197]) [] = some false := g2
    rw [g3, F3]
    simp only [hL]
    rfl)
def f221 : Option Bool := some true
theorem E221 : EntOK FT XT 221 (en221 f221) := ok221 h223 h226 h227 E223 E226 E227 fun r h => ⟨0, by
  rw [← h]
  exact p221_is (h223_is (k := []) (m := []) (fun x hx => by cases hx) (by simp) (fun x hx => by cases hx) (by simp) rfl (by simp))
    (fun a ha => h226_is (k := []) (m := []) (fun x hx => by cases hx) (by simp) (fun x hx => by cases hx) (by simp) rfl (by simp) ha)
    (h227_is (k := []) (fun x hx => by cases hx) (by simp) 2) (crow_len _ _)⟩
/-! ### laws -/
section
variable {c221 : Option Bool} {c222 : List Int → List Int → Option (List Int)} {c223 : List Int → List (List Int) → Option (List Int)} {c224 c225 : List Int → Option (List Int)} {c226 : List Int → List Int → List (List Int) → Option Bool} {c23 : List Int → List Int → Option Bool}
  {c227 c228 : List Int → Int → Option (List (List Int))} {c213 : List (List Int) → Option (List Int)}
theorem L208_0_is (A : c221 = some true) (N : Nat) (q : List Int → List (List Int) → List Int → Nat → List Int → Option Bool) (v4 v6 : List Int) (ll : List (List Int)) (hl : ll.length ≤ 20) (hq : (∀ x ∈ ll, x.length ≤ 100) → q v4 ll v6 ll.flatten.length ll.flatten = some true) :
    ∀ (d i fuel : Nat), i + d = ll.length → d < fuel → (∀ x ∈ ll.take i, x.length ≤ 100) → L208_0 c221 c222 c223 c224 c225 c226 c23 N q fuel v4 ll v6 (fl ll i) ll ((ll.length : Nat) : Int) (i : Int) (ll.take i).flatten = some true := by
  intro d
  induction d with
  | zero =>
    intro i fuel hd hf hs
    obtain ⟨m, rfl⟩ : ∃ m, fuel = m + 1 := ⟨fuel - 1, by omega⟩
    obtain rfl : i = ll.length := by omega
    simp only [L208_0, show ¬ (((ll.length : Nat) : Int) < ((ll.length : Nat) : Int)) by omega, decide_false, cond_false]
    rw [List.take_length] at hs ⊢
    have := hq hs
    unfold fl
    rw [List.take_length]
    exact this
  | succ d ih =>
    intro i fuel hd hf hs
    obtain ⟨m, rfl⟩ : ∃ m, fuel = m + 1 := ⟨fuel - 1, by omega⟩
    have hi : i < ll.length := by omega
    have h1 := fl_succ hi
    have h2 := fl_small (i := i) (by omega) hs
    have e : ll.take (i + 1) = ll.take i ++ [ll[i]] := by rw [List.take_add_one, List.getElem?_eq_getElem hi]; rfl
    have ef : (ll.take i).flatten ++ ll[i] = (ll.take (i + 1)).flatten := by rw [e, List.flatten_append, List.flatten_cons, List.flatten_nil, List.append_nil]
    simp only [L208_0, show (i : Int) < ((ll.length : Nat) : Int) by omega, decide_true, cond_true, geti_nat, List.getElem?_eq_getElem hi]
    by_cases h100 : ll[i].length ≤ 100
    · simp only [show ¬ (((ll[i].length : Nat) : Int) > 100) by omega, decide_false, cond_false, Nat.mul_one, show ((ll.take i).flatten.length == fl ll i) = true from beq_self_eq_true _, ← h1, show fl ll (i + 1) ≤ 1099511627776 by omega, decide_true, Bool.and_self, cond_true, ef]
      rw [up1 (by omega)]
      exact ih (i + 1) m (by omega) (by omega) (fun x hx => by
        rw [e] at hx
        rcases List.mem_append.1 hx with g | g
        · exact hs x g
        · rw [List.mem_singleton.1 g]; exact h100)
    · simp only [show ((ll[i].length : Nat) : Int) > 100 by omega, decide_true, cond_true, A]
theorem p208_is (A : c221 = some true) {k m s : List Nat} {ll : List (List Int)} (hfl : ll.flatten = nI m) (hs : bel 256 s)
    (F : k.length ≤ 200 → ll.length ≤ 10 → m.length ≤ 1000 → c222 (nI k) (nI m) = some (nI (hm k m)) ∧ c223 (nI k) ll = some (nI (hm k m)) ∧ c224 (nI k) = some (nI (kb k)) ∧ c225 (nI k) = some (nI (kb k)) ∧ (∀ a, bel 256 a → c226 (nI k) (nI a) ll = some (hm k m == a)) ∧ (∀ a b : List Nat, a.length = 32 → c23 (nI a) (nI b) = some (a == b))) :
    p208 c221 c222 c223 c224 c225 c226 c23 100 (nI k) ll (nI s) = some true := by
  unfold p208
  by_cases h1 : k.length ≤ 200
  · by_cases h2 : ll.length ≤ 10
    · by_cases h3 : s.length ≤ 100
      · rw [show decide ((((nI k).length : Nat) : Int) > 200) = false from decide_eq_false (by rw [nI_len]; omega), cond_false, show decide (((ll.length : Nat) : Int) > 10) = false from decide_eq_false (by omega), cond_false, show decide ((((nI s).length : Nat) : Int) > 100) = false from decide_eq_false (by rw [nI_len]; omega), cond_false]
        refine L208_0_is A 100 _ (nI k) (nI s) ll (by omega) (fun hall => ?_) ll.length 0 100 (by omega) (by omega) (by simp)
        have hsm := fl_small (ll := ll) (i := ll.length) (Nat.le_refl _) (by rw [List.take_length]; exact hall)
        have hml : m.length ≤ 1000 := by
          have : fl ll ll.length = m.length := by unfold fl; rw [List.take_length, hfl, nI_len]
          omega
        obtain ⟨G1, G2, G3, G4, G5, G6⟩ := F h1 h2 hml
        have hd := hm_len k m
        have hk := kb_len k
        have e := row_in (l := nI (hm k m)) (k := 32) (z := ([(0 : Int), (0 : Int), (0 : Int), (0 : Int), (0 : Int), (0 : Int), (0 : Int), (0 : Int), (0 : Int), (0 : Int), (0 : Int), (0 : Int), (0 : Int), (0 : Int), (0 : Int), (0 : Int), (0 : Int), (0 : Int), (0 : Int), (0 : Int), (0 : Int), (0 : Int), (0 : Int), (0 : Int), (0 : Int), (0 : Int), (0 : Int), (0 : Int), (0 : Int), (0 : Int), (0 : Int), (0 : Int)] : List Int)) (by rw [nI_len]; exact hd) rfl
        have e0 : List.take m.length (List.drop 0 (nI m)) = nI m := by rw [List.drop_zero, List.take_of_length_le (by rw [nI_len]; exact Nat.le_refl _)]
        have g1 := G5 s hs
        have g2 := G5 (hm k m) (hm_bel _ _)
        rw [beq_self_eq_true] at g2
        have g3 := G6 (hm k m) s hd
        rw [hfl, nI_len]
        simp only [e0, G1, G2, G3, G4, e, t32 hd, g1, g2, g3, A]
        simp only [nI_len, hd, hk, Nat.zero_add, Nat.mul_one, Nat.le_refl, beq_self_eq_true, decide_true, cond_true, Bool.and_self]
      · rw [show decide ((((nI k).length : Nat) : Int) > 200) = false from decide_eq_false (by rw [nI_len]; omega), cond_false, show decide (((ll.length : Nat) : Int) > 10) = false from decide_eq_false (by omega), cond_false, show decide ((((nI s).length : Nat) : Int) > 100) = true from decide_eq_true (by rw [nI_len]; omega), cond_true, A]
    · rw [show decide ((((nI k).length : Nat) : Int) > 200) = false from decide_eq_false (by rw [nI_len]; omega), cond_false, show decide (((ll.length : Nat) : Int) > 10) = true from decide_eq_true (by omega), cond_true, A]
  · rw [show decide ((((nI k).length : Nat) : Int) > 200) = true from decide_eq_true (by rw [nI_len]; omega), cond_true, A]
theorem L209_0_is (N : Nat) (k : List Nat) (n : Nat) (hn : n ≤ 32) (F23 : ∀ a : List Int, a.length < 1099511627776 → c23 a a = some true) (F226 : ∀ i, c226 (nI k) (nI (chn k (i + 1))) [nI (chn k i)] = some true) : ∀ (d i fuel : Nat), i + d = n → d < fuel →
    L209_0 c221 c227 c228 c23 c226 N (some true) fuel (nI k) (crow k n) (crow k n) (n : Int) (i : Int) = some true := by
  intro d
  induction d with
  | zero =>
    intro i fuel hd hf
    obtain ⟨m, rfl⟩ : ∃ m, fuel = m + 1 := ⟨fuel - 1, by omega⟩
    obtain rfl : i = n := by omega
    simp only [L209_0, show ¬ ((i : Int) < (i : Int)) by omega, decide_false, cond_false]
  | succ d ih =>
    intro i fuel hd hf
    obtain ⟨m, rfl⟩ : ∃ m, fuel = m + 1 := ⟨fuel - 1, by omega⟩
    have g := F23 (nI (chn k (i + 1))) (by rw [nI_len, chn_len']; omega)
    simp only [L209_0, show ((i : Int) < (n : Int)) by omega, decide_true, cond_true, geti_nat, crow_get k (show i < n by omega), g, Bool.not_true, cond_false]
    cases i with
    | zero =>
      simp only [show ¬ (((0 : Nat) : Int) > 0) by omega, decide_false, cond_false]
      rw [up1 (by omega)]
      exact ih 1 m (by omega) (by omega)
    | succ i =>
      have e : isub .i64 ((i + 1 : Nat) : Int) 1 = (i : Int) := by rw [show (1 : Int) = ((1 : Nat) : Int) from rfl, subn (by omega) (by omega)]; rfl
      simp only [show (((i + 1 : Nat) : Int) > 0) by omega, decide_true, cond_true, e, geti_nat, crow_get k (show i < n by omega), F226 (i + 1), Bool.not_true, cond_false]
      rw [up1 (by omega)]
      exact ih (i + 1 + 1) m (by omega) (by omega)
theorem p209_is (A : c221 = some true) {k : List Nat} {z : Int} (F : k.length ≤ 200 → c227 (nI k) z = some (crow k (many z)) ∧ c228 (nI k) z = some (crow k (many z)) ∧ ∀ i, c226 (nI k) (nI (chn k (i + 1))) [nI (chn k i)] = some true)
    (F23 : ∀ a : List Int, a.length < 1099511627776 → c23 a a = some true) : p209 c221 c227 c228 c23 c226 100 (nI k) z = some true := by
  unfold p209
  by_cases h1 : k.length ≤ 200
  · obtain ⟨G1, G2, G3⟩ := F h1
    have h32 := many_le z
    rw [show decide ((((nI k).length : Nat) : Int) > 200) = false from decide_eq_false (by rw [nI_len]; omega), cond_false, G1, G2]
    simp only [crow_len, bne_self_eq_false, cond_false, A]
    exact L209_0_is 100 k (many z) h32 F23 G3 (many z) 0 100 (by omega) (by omega)
  · rw [show decide ((((nI k).length : Nat) : Int) > 200) = true from decide_eq_true (by rw [nI_len]; omega), cond_true, A]
theorem kb_pad (k : List Nat) (e : Nat) (h : k.length + e ≤ 64) : kb (k ++ List.replicate e 0) = kb k := by
  unfold kb
  rw [if_neg (by rw [List.length_append, List.length_replicate]; omega), if_neg (by omega)]
  unfold pad64
  rw [List.append_assoc, List.replicate_append_replicate, List.length_append, List.length_replicate]
  congr 2
  omega
theorem hm_pad {k k' : List Nat} (m : List Nat) (h : kb k = kb k') : hm k m = hm k' m := by unfold hm padx; rw [h]
theorem kb_long {k : List Nat} (h : 64 < k.length) : kb (s2dig k) = kb k := by
  unfold kb
  rw [if_pos h, if_neg (by rw [s2dig_len]; omega)]
theorem p210_is (A : c221 = some true) {N : Nat} {k m : List Nat} {z : Nat} (hz : z < 256) (hk : bel 256 k) (F : ∀ k' : List Nat, bel 256 k' → k'.length ≤ 64 → m.length ≤ 200 → c223 (nI k') [nI m] = some (nI (hm k' m)) ∧ c224 (nI k') = some (nI (kb k'))) :
    p210 c221 c223 c224 N (nI k) (z : Int) (nI m) = some true := by
  unfold p210
  by_cases h1 : k.length ≤ 64
  · by_cases h2 : m.length ≤ 200
    · rw [show decide ((((nI k).length : Nat) : Int) > 64) = false from decide_eq_false (by rw [nI_len]; omega), cond_false, show decide ((((nI m).length : Nat) : Int) > 200) = false from decide_eq_false (by rw [nI_len]; omega), cond_false]
      have ez : IntKind.wrap .i64 (z : Int) = (z : Int) := wrap_i64 (by omega) (by omega)
      have e65 : isub .i64 65 (((nI k).length : Nat) : Int) = ((65 - k.length : Nat) : Int) := by
        rw [nI_len, show (65 : Int) = ((65 : Nat) : Int) from rfl, subn (by omega) (by omega)]
      have er : irem (IntKind.wrap .i64 (z : Int)) ((65 - k.length : Nat) : Int) = ((z % (65 - k.length) : Nat) : Int) := by rw [ez, irem_n]
      have hlt : z % (65 - k.length) < 65 - k.length := Nat.mod_lt _ (by omega)
      simp only [e65, er]
      generalize z % (65 - k.length) = e at *
      have hkb := kb_pad k e (by omega)
      have hb2 : bel 256 (k ++ List.replicate e 0) := bel_app hk (bel_rep (by omega))
      obtain ⟨G1, G2⟩ := F k hk h1 h2
      obtain ⟨G3, G4⟩ := F (k ++ List.replicate e 0) hb2 (by rw [List.length_append, List.length_replicate]; omega) h2
      rw [hm_pad m hkb] at G3
      rw [hkb] at G4
      have hl := kb_len k
      have hd := hm_len k m
      have s1 : (k ++ List.replicate e 0).length = k.length + e := by rw [List.length_append, List.length_replicate]
      have e0 : List.take (k.length + e) (List.drop 0 (nI (k ++ List.replicate e 0))) = nI (k ++ List.replicate e 0) := by rw [List.drop_zero, List.take_of_length_le (by rw [nI_len]; omega)]
      have er0 : List.replicate e (0 : Int) = nI (List.replicate e 0) := nI_rep e 0
      have ene : (((65 - k.length : Nat) : Int) == 0) = false := beq_eq_false_iff_ne.2 (by omega)
      simp only [nI_len, Nat.mul_one, show k.length ≤ 1099511627776 by omega, decide_true, Bool.and_self, cond_true, ene, cond_false, show (0 : Int) ≤ (e : Int) by omega, show (e : Int) * ((1 : Nat) : Int) ≤ 1099511627776 by omega, show (e : Int) ≤ 1099511627776 by omega, Int.toNat_natCast, List.length_replicate, beq_self_eq_true, show k.length + e ≤ 1099511627776 by omega, G1, er0, nI_app, s1, Nat.zero_add, Nat.le_refl, e0, G3, hd, G2, G4, hl, A]
    · rw [show decide ((((nI k).length : Nat) : Int) > 64) = false from decide_eq_false (by rw [nI_len]; omega), cond_false, show decide ((((nI m).length : Nat) : Int) > 200) = true from decide_eq_true (by rw [nI_len]; omega), cond_true, A]
  · rw [show decide ((((nI k).length : Nat) : Int) > 64) = true from decide_eq_true (by rw [nI_len]; omega), cond_true, A]
theorem p211_is (A : c221 = some true) {N : Nat} {k m : List Nat} (hk : bel 256 k) (F213 : k.length ≤ 300 → c213 [nI k] = some (nI (s2dig k))) (F : ∀ k' : List Nat, bel 256 k' → k'.length ≤ 300 → m.length ≤ 200 → c223 (nI k') [nI m] = some (nI (hm k' m)) ∧ c224 (nI k') = some (nI (kb k'))) :
    p211 c221 c213 c223 c224 N (nI k) (nI m) = some true := by
  unfold p211
  by_cases h1 : k.length ≤ 300
  · rw [show decide ((((nI k).length : Nat) : Int) > 300) = false from decide_eq_false (by rw [nI_len]; omega), cond_false]
    by_cases h2 : m.length ≤ 200
    · rw [show decide ((((nI m).length : Nat) : Int) > 200) = false from decide_eq_false (by rw [nI_len]; omega), cond_false]
      by_cases h3 : k.length ≤ 64
      · rw [show decide ((((nI k).length : Nat) : Int) ≤ 64) = true from decide_eq_true (by rw [nI_len]; omega), cond_true, A]
      · rw [show decide ((((nI k).length : Nat) : Int) ≤ 64) = false from decide_eq_false (by rw [nI_len]; omega), cond_false]
        have hdl := s2dig_len k
        have hkb := kb_long (k := k) (by omega)
        obtain ⟨G1, G2⟩ := F k hk h1 h2
        obtain ⟨G3, G4⟩ := F (s2dig k) (s2dig_bel _) (by omega) h2
        rw [hm_pad m hkb] at G3
        rw [hkb] at G4
        have hl := kb_len k
        have hd := hm_len k m
        have e := row_in (l := nI (s2dig k)) (k := 32) (z := ([(0 : Int), (0 : Int), (0 : Int), (0 : Int), (0 : Int), (0 : Int), (0 : Int), (0 : Int), (0 : Int), (0 : Int), (0 : Int), (0 : Int), (0 : Int), (0 : Int), (0 : Int), (0 : Int), (0 : Int), (0 : Int), (0 : Int), (0 : Int), (0 : Int), (0 : Int), (0 : Int), (0 : Int), (0 : Int), (0 : Int), (0 : Int), (0 : Int), (0 : Int), (0 : Int), (0 : Int), (0 : Int)] : List Int)) (by rw [nI_len]; exact hdl) rfl
        rw [F213 h1]
        simp only [e, t32 hdl, G1, G2, G3, G4, A]
        simp only [nI_len, hdl, hd, hl, Nat.zero_add, Nat.le_refl, beq_self_eq_true, decide_true, cond_true, Bool.and_self]
    · rw [show decide ((((nI m).length : Nat) : Int) > 200) = true from decide_eq_true (by rw [nI_len]; omega), cond_true, A]
  · rw [show decide ((((nI k).length : Nat) : Int) > 300) = true from decide_eq_true (by rw [nI_len]; omega), cond_true, A]
end
def isB (a : List Int) : Prop := ∀ x ∈ a, (Lit.int .u8 x).wf = true
theorem isB_of {a : List Int} (h : isB a) : ∃ r : List Nat, a = nI r ∧ bel 256 r := wf_bel (k := .u8) rfl h
open Classical in
noncomputable def f208 (a : List Int) (l : List (List Int)) (b : List Int) : Option Bool := if isB a ∧ (∀ x ∈ l, isB x) ∧ isB b then some true else none
theorem E208 : EntOK FT XT 208 (en208 f208) := ok208 f221 h222 h223 h224 h225 h226 f23 E221 E222 E223 E224 E225 E226 E23 fun a l b r h => ⟨100, by
  unfold f208 at h
  split at h <;> try (cases h; done)
  rename_i hc
  rw [← h]
  obtain ⟨k, rfl, hk⟩ := isB_of hc.1
  obtain ⟨s, rfl, hs⟩ := isB_of hc.2.2
  obtain ⟨m, hfl, hm1⟩ := parts_of (ll := l) hc.2.1
  exact p208_is rfl hfl hs fun h1 h2 h3 => ⟨h222_is hk (by omega) hm1 (by omega), h223_is hk (by omega) hm1 (by omega) hfl (by omega), h224_is hk (by omega), h225_is hk (by omega), fun a ha => h226_is hk (by omega) hm1 (by omega) hfl (by omega) ha, fun a b ha => by
    unfold f23; rw [if_pos (by rw [nI_len]; omega), nI_beq]⟩⟩
theorem law208 (z0 : List Int) (z1 : List (List Int)) (z2 : List Int) (h0 : z0.length ≤ maxLen ∧ ∀ x ∈ z0, (Lit.int .u8 x).wf = true) (h1 : z1.length ≤ maxLen ∧ ∀ x ∈ z1, x.length ≤ maxLen ∧ ∀ y ∈ x, (Lit.int .u8 y).wf = true) (h2 : z2.length ≤ maxLen ∧ ∀ x ∈ z2, (Lit.int .u8 x).wf = true) :
    Ans FT XT 208 (encL [Sh.sl (.int .u8), Sh.sl (Sh.sl (.int .u8)), Sh.sl (.int .u8)] (z0, (z1, (z2, ())))) [] (.bool true) [] :=
  E208.2 (z0, (z1, (z2, ()))) true (if_pos ⟨h0.2, fun x hx => (h1.2 x hx).2, h2.2⟩)
open Classical in
noncomputable def f209 (a : List Int) (z : Int) : Option Bool := if isB a then some true else none
theorem E209 : EntOK FT XT 209 (en209 f209) := ok209 f221 h227 h228 f23 h226 E221 E227 E228 E23 E226 fun a z r h => ⟨100, by
  unfold f209 at h
  split at h <;> try (cases h; done)
  rename_i hc
  rw [← h]
  obtain ⟨k, rfl, hk⟩ := isB_of hc
  exact p209_is rfl (fun h1 => ⟨h227_is hk (by omega) z, h228_is hk (by omega) z, fun i => by
    have := h226_is (k := k) (m := chn k i) (a := chn k (i + 1)) (ll := [nI (chn k i)]) hk (by omega) (chn_bel k i) (by have := chn_len k i; omega) (by simp) (by simp) (chn_bel k (i + 1))
    rw [this, show chn k (i + 1) = hm k (chn k i) from rfl, beq_self_eq_true]⟩) fun a ha => f23_same ha⟩
theorem law209 (z0 : List Int) (z1 : Int) (h0 : z0.length ≤ maxLen ∧ ∀ x ∈ z0, (Lit.int .u8 x).wf = true) (h1 : (Lit.int .i64 z1).wf = true) :
    Ans FT XT 209 (encL [Sh.sl (.int .u8), Sh.int .i64] (z0, (z1, ()))) [] (.bool true) [] :=
  E209.2 (z0, (z1, ())) true (if_pos h0.2)
open Classical in
noncomputable def f210 (a : List Int) (z : Int) (b : List Int) : Option Bool := if isB a ∧ (Lit.int .u8 z).wf = true ∧ isB b then some true else none
theorem E210 : EntOK FT XT 210 (en210 f210) := ok210 f221 h223 h224 E221 E223 E224 fun a z b r h => ⟨0, by
  unfold f210 at h
  split at h <;> try (cases h; done)
  rename_i hc
  rw [← h]
  obtain ⟨k, rfl, hk⟩ := isB_of hc.1
  obtain ⟨m, rfl, hm1⟩ := isB_of hc.2.2
  have hz := wf_u (k := .u8) rfl hc.2.1
  obtain ⟨y, rfl⟩ : ∃ y : Nat, z = y := ⟨z.toNat, by omega⟩
  have hy : y < 256 := by have := hz.2; exact_mod_cast this
  exact p210_is rfl hy hk fun k' h1 h2 h3 => ⟨h223_is h1 (by omega) hm1 (by omega) (by simp) (by simp), h224_is h1 (by omega)⟩⟩
theorem law210 (z0 : List Int) (z1 : Int) (z2 : List Int) (h0 : z0.length ≤ maxLen ∧ ∀ x ∈ z0, (Lit.int .u8 x).wf = true) (h1 : (Lit.int .u8 z1).wf = true) (h2 : z2.length ≤ maxLen ∧ ∀ x ∈ z2, (Lit.int .u8 x).wf = true) :
    Ans FT XT 210 (encL [Sh.sl (.int .u8), Sh.int .u8, Sh.sl (.int .u8)] (z0, (z1, (z2, ())))) [] (.bool true) [] :=
  E210.2 (z0, (z1, (z2, ()))) true (if_pos ⟨h0.2, h1, h2.2⟩)
open Classical in
noncomputable def f211 (a b : List Int) : Option Bool := if isB a ∧ isB b then some true else none
theorem E211 : EntOK FT XT 211 (en211 f211) := ok211 f221 h213 h223 h224 E221 E213 E223 E224 fun a b r h => ⟨0, by
  unfold f211 at h
  split at h <;> try (cases h; done)
  rename_i hc
  rw [← h]
  obtain ⟨k, rfl, hk⟩ := isB_of hc.1
  obtain ⟨m, rfl, hm1⟩ := isB_of hc.2
  exact p211_is rfl hk (fun h1 => h213_is (by simp) (by simp) hk (by omega)) fun k' h1 h2 h3 => ⟨h223_is h1 (by omega) hm1 (by omega) (by simp) (by simp), h224_is h1 (by omega)⟩⟩
theorem law211 (z0 z1 : List Int) (h0 : z0.length ≤ maxLen ∧ ∀ x ∈ z0, (Lit.int .u8 x).wf = true) (h1 : z1.length ≤ maxLen ∧ ∀ x ∈ z1, (Lit.int .u8 x).wf = true) :
    Ans FT XT 211 (encL [Sh.sl (.int .u8), Sh.sl (.int .u8)] (z0, (z1, ()))) [] (.bool true) [] :=
  E211.2 (z0, (z1, ())) true (if_pos ⟨h0.2, h1.2⟩)
end Go.Proofs.YthljmhlpbakahaaE
