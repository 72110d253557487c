/- Chapter 13: derivations, binding keys, seals. -/
import Derived.Test.YtciafmcbccgggaaEvI3
namespace Go.Proofs.YtciafmcbccgggaaE
open Go
set_option linter.unusedSimpArgs false
set_option linter.unusedVariables false
/-! ### pieces -/
/-- the piece of a number, from 1 on -/
def pcz (k s : List Nat) (L : Nat) : Nat → List Nat
  | 0 => []
  | n + 1 => hm k (pcz k s L n ++ (s ++ (le2 L ++ [(n + 1) % 256])))
def odz (k s : List Nat) (L : Nat) : Nat → List Nat
  | 0 => []
  | n + 1 => odz k s L n ++ pcz k s L (n + 1)
theorem pcz_len (k s : List Nat) (L n : Nat) : (pcz k s L n).length ≤ 32 := by
  cases n with
  | zero => exact Nat.zero_le _
  | succ n => rw [pcz, hm_len]; exact Nat.le_refl _
theorem pcz_len' (k s : List Nat) (L n : Nat) : (pcz k s L (n + 1)).length = 32 := by rw [pcz, hm_len]
theorem pcz_bel (k s : List Nat) (L n : Nat) : bel 256 (pcz k s L n) := by
  cases n with
  | zero => exact fun x hx => by cases hx
  | succ n => rw [pcz]; exact hm_bel _ _
theorem odz_len (k s : List Nat) (L : Nat) : ∀ n, (odz k s L n).length = 32 * n
  | 0 => rfl
  | n + 1 => by rw [odz, List.length_append, odz_len k s L n, pcz_len']; omega
theorem odz_bel (k s : List Nat) (L : Nat) : ∀ n, bel 256 (odz k s L n)
  | 0 => fun x hx => by cases hx
  | n + 1 => by rw [odz]; exact bel_app (odz_bel k s L n) (pcz_bel _ _ _ _)
def many13 (n : Nat) : Nat := (n + 31) / 32
def drv (k s : List Nat) (n : Nat) : List Nat := (odz k s n (many13 n)).take n
theorem drv_len (k s : List Nat) (n : Nat) : (drv k s n).length = n := by
  unfold drv
  rw [List.length_take, odz_len]
  unfold many13
  omega
theorem drv_bel (k s : List Nat) (n : Nat) : bel 256 (drv k s n) := bel_take (odz_bel _ _ _ _)
theorem le2_bel (n : Nat) : bel 256 (le2 n) := fun x hx => by simp [le2] at hx; omega
theorem row32 {r : List Nat} (h : r.length = 32) : ([] ++ nI r) ++ List.drop (0 + (nI r).length) ([(0 : Int), 0, 0, 0, 0, 0, 0, 0, 0, 0, 0, 0, 0, 0, 0, 0, 0, 0, 0, 0, 0, 0, 0, 0, 0, 0, 0, 0, 0, 0, 0, 0] : List Int) = nI r := row_in (k := 32) (by rw [nI_len]; exact h) rfl
theorem row32' {r : List Nat} (h : r.length = 32) : ([] ++ nI r) ++ List.drop (0 + r.length) ([(0 : Int), 0, 0, 0, 0, 0, 0, 0, 0, 0, 0, 0, 0, 0, 0, 0, 0, 0, 0, 0, 0, 0, 0, 0, 0, 0, 0, 0, 0, 0, 0, 0] : List Int) = nI r := by
  have := row32 h
  rwa [nI_len] at this
def h307 (n : Int) := p307 0 n
theorem E307 : EntOK FT XT 307 (en307 h307) := ok307 fun _ _ h => ⟨0, h⟩
def h292 (a b : List Int) (n : Int) := p292 h307 0 a b n
theorem E292 : EntOK FT XT 292 (en292 h292) := ok292 h307 E307 fun _ _ _ _ h => ⟨0, h⟩
theorem h307_low {z : Int} (h : z < 1) : h307 z = some 1 := by
  unfold h307 p307
  rw [decide_eq_true h]; rfl
theorem h307_high {z : Int} (h : 8160 < z) : h307 z = some 8 := by
  unfold h307 p307
  rw [show decide (z < 1) = false from decide_eq_false (by omega), show decide (z > 8160) = true from decide_eq_true (by omega)]; rfl
theorem h307_in {n : Nat} (h1 : 1 ≤ n) (h2 : n ≤ 8160) : h307 (n : Int) = some 0 := by
  unfold h307 p307
  rw [show decide ((n : Int) < 1) = false from decide_eq_false (by omega), show decide ((n : Int) > 8160) = false from decide_eq_false (by omega)]; rfl
theorem h292_out {a b : List Int} {z : Int} (h : z < 1 ∨ 8160 < z) : h292 a b z = some 0 := by
  unfold h292 p292
  rcases h with h | h
  · rw [h307_low h]; rfl
  · rw [h307_high h]; rfl
theorem h292_in {a b : List Int} {n : Nat} (h1 : 1 ≤ n) (h2 : n ≤ 8160) : h292 a b (n : Int) = some ((many13 n : Nat) : Int) := by
  unfold h292 p292
  rw [h307_in h1 h2]
  have e1 : iadd .i64 (n : Int) 32 = ((n + 32 : Nat) : Int) := addn (b := 32) (by omega)
  have e2 : isub .i64 ((n + 32 : Nat) : Int) 1 = ((n + 31 : Nat) : Int) := by rw [show (1 : Int) = ((1 : Nat) : Int) from rfl, subn (by omega) (by omega)]; rfl
  have e3 : iquo .i64 ((n + 31 : Nat) : Int) 32 = (((n + 31) / 32 : Nat) : Int) := quon (b := 32) (by omega)
  rw [e1, e2, e3]; rfl
/-! ### the program's -/
section
variable {c223 : List Int → List (List Int) → Option (List Int)}
theorem p308_is {k s m T last : List Nat} {i o : Nat} {out : List Int} {r : List Nat} (hr : r.length = 32) (F : c223 (nI k) [nI last, nI s, nI T, [IntKind.wrap .u8 (i : Int)]] = some (nI r)) (ho : out.length = o) (hs : o ≤ 100000) :
    p308v2 c223 0 (i : Int) (nI k) (nI last) (nI s) (nI T) o out = some (((), ()), ((nI k, ()), (((32, 32), ()), ((nI s, ()), ((nI T, ()), (((o + 32), ()), ((), (nI r, ((out ++ nI r), ()))))))))) := by
  unfold p308v2
  rw [F]
  simp only [row32 hr, t32 hr]
  simp only [nI_len, hr, ho, beq_self_eq_true, cond_true, Nat.zero_add, Nat.mul_one, Nat.le_refl, decide_true, show o + 32 ≤ 1099511627776 by omega, Bool.and_self]
end
def h308 (a : Int) (b c d e : List Int) (n : Nat) (l : List Int) := p308v2 h223 0 a b c d e n l
theorem R308 : REntOK FT XT 308 (rn308v2 h308) := ok308v2 h223 E223 fun _ _ _ _ _ _ _ _ h => ⟨0, h⟩
theorem h308_is {k s T last : List Nat} {i o : Nat} {out : List Int} (hk : bel 256 k) (hkl : k.length ≤ 6000) (hs : bel 256 s) (hT : bel 256 T) (hl : bel 256 last) (hsl : s.length ≤ 2000) (hTl : T.length = 2) (hll : last.length ≤ 32) (ho : out.length = o) (ho2 : o ≤ 100000) :
    h308 (i : Int) (nI k) (nI last) (nI s) (nI T) o out = some (((), ()), ((nI k, ()), (((32, 32), ()), ((nI s, ()), ((nI T, ()), (((o + 32), ()), ((), (nI (hm k (last ++ (s ++ (T ++ [i % 256])))), ((out ++ nI (hm k (last ++ (s ++ (T ++ [i % 256]))))), ()))))))))) := by
  refine p308_is (m := []) (hm_len _ _) ?_ ho ho2
  rw [w8]
  exact h223_is hk hkl (bel_app hl (bel_app hs (bel_app hT (fun x hx => by simp at hx; omega)))) (by simp; omega) (by simp [← nI_app, nI]) (by simp)
section
variable {c307 : Int → Option Int} {c19 : Int → Int → Bool → Option ((List Int) × Int)} {c292 : List Int → List Int → Int → Option Int}
theorem L290_is (N : Nat) (q : Int → List Int → Nat → List Int → Option ((List Int) × Int)) (k s : List Nat) (n : Nat) (hk : bel 256 k) (hkl : k.length ≤ 6000) (hs : bel 256 s) (hsl : s.length ≤ 2000) (P : Nat) (hP : P ≤ 255) : ∀ (d i fuel : Nat), i + d = P → d < fuel →
    L290_0 c307 c19 c292 h308 N q fuel (n : Int) (P : Int) (i : Int) (nI (pcz k s n i)) (32 * i) (nI (odz k s n i)) (nI k) (nI s) (nI (le2 n)) = q (n : Int) (nI (pcz k s n P)) (32 * P) (nI (odz k s n P)) := by
  intro d
  induction d with
  | zero =>
    intro i fuel hd hf
    obtain ⟨m, rfl⟩ : ∃ m, fuel = m + 1 := ⟨fuel - 1, by omega⟩
    obtain rfl : i = P := by omega
    simp only [L290_0, show ¬ ((i : Int) < (i : Int)) by omega, decide_false, cond_false]
  | succ d ih =>
    intro i fuel hd hf
    obtain ⟨m, rfl⟩ : ∃ m, fuel = m + 1 := ⟨fuel - 1, by omega⟩
    have hF := h308_is (k := k) (s := s) (T := le2 n) (last := pcz k s n i) (i := i + 1) (o := 32 * i) (out := nI (odz k s n i)) hk hkl hs (le2_bel n) (pcz_bel _ _ _ _) hsl rfl (pcz_len _ _ _ _) (by rw [nI_len, odz_len]) (by omega)
    rw [show hm k (pcz k s n i ++ (s ++ (le2 n ++ [(i + 1) % 256]))) = pcz k s n (i + 1) from rfl] at hF
    simp only [L290_0, show ((i : Int) < (P : Int)) by omega, decide_true, cond_true, up1 (show i < 2 ^ 62 by omega), hF]
    simp only [nI_len, pcz_len', Nat.zero_add, Nat.mul_one, Nat.le_refl, decide_true, cond_true, t32 (pcz_len' k s n i), nI_app]
    exact ih (i + 1) m (by omega) (by omega)
theorem p290_is {N : Nat} (hN : 300 < N) {k s : List Nat} {n : Nat} (hk : bel 256 k) (hkl : k.length ≤ 6000) (hs : bel 256 s) (hsl : s.length ≤ 2000) (h1 : 1 ≤ n) (h2 : n ≤ 8160) (F1 : c307 (n : Int) = some 0) (F2 : c19 (n : Int) 2 true = some (nI (le2 n), 0)) (F3 : c292 (nI k) (nI s) (n : Int) = some ((many13 n : Nat) : Int)) :
    p290 c307 c19 c292 h308 N (nI k) (nI s) (n : Int) = some (nI (drv k s n), 0) := by
  unfold p290
  rw [F1]
  simp only [bne_self_eq_false, cond_false, w64 (show n < 2 ^ 64 by omega), F2, F3]
  have hm : many13 n ≤ 255 := by unfold many13; omega
  refine (L290_is N _ k s n hk hkl hs hsl (many13 n) hm (many13 n) 0 N (by omega) (by omega)).trans ?_
  have hle : n ≤ 32 * many13 n := by unfold many13; omega
  simp only [show (0 : Int) ≤ (n : Int) by omega, show (n : Int) ≤ ((32 * many13 n : Nat) : Int) by omega, decide_true, Bool.and_self, cond_true, Int.toNat_natCast, nI_len, odz_len, Nat.zero_add, Nat.mul_one, hle, List.drop_zero, nI_take]
  rfl
theorem p290_out {N : Nat} {a b : List Int} {z e : Int} (F1 : c307 z = some e) (he : e ≠ 0) {d : Int → List Int → List Int → List Int → List Int → Nat → List Int → Option ((Unit × Unit) × (((List Int) × Unit) × (((Nat × Nat) × Unit) × (((List Int) × Unit) × (((List Int) × Unit) × ((Nat × Unit) × (Unit × ((List Int) × ((List Int) × Unit)))))))))} :
    p290 c307 c19 c292 d N a b z = some ([], e) := by
  unfold p290
  rw [F1]
  simp only [bne_iff_ne.2 he, cond_true]
end
def h290 (a b : List Int) (z : Int) := p290 h307 h19 h292 h308 400 a b z
theorem E290 : EntOK FT XT 290 (en290 h290) := ok290 h307 h19 h292 h308 E307 E19 E292 R308 fun _ _ _ _ h => ⟨400, h⟩
theorem h290_in {k s : List Nat} {n : Nat} (hk : bel 256 k) (hkl : k.length ≤ 6000) (hs : bel 256 s) (hsl : s.length ≤ 2000) (h1 : 1 ≤ n) (h2 : n ≤ 8160) : h290 (nI k) (nI s) (n : Int) = some (nI (drv k s n), 0) :=
  p290_is (by omega) hk hkl hs hsl h1 h2 (h307_in h1 h2) (put_le2 n) (h292_in h1 h2)
/-! ### the document's -/
section
variable {c222 : List Int → List Int → Option (List Int)}
theorem iquo256 {n : Nat} (h : n < 2 ^ 62) : iquo .i64 (n : Int) 256 = ((n / 256 : Nat) : Int) := quon (b := 256) h
theorem L291_is (N : Nat) (q : Int → Nat → Int → List Int → Option ((List Int) × Int × Int)) (k s : List Nat) (n : Nat) (F : ∀ m, bel 256 m → m.length ≤ 5000 → c222 (nI k) (nI m) = some (nI (hm k m))) (hs : bel 256 s) (hsl : s.length ≤ 2000) (h1 : 1 ≤ n) (h2 : n ≤ 8160) : ∀ (d i fuel : Nat), i + d = many13 n → d < fuel →
    L291_0 c222 N q fuel (nI k) (nI s) (n : Int) (32 * i) (nI (pcz k s n i)) (i : Int) (nI (odz k s n i)) = q (n : Int) (32 * many13 n) ((many13 n : Nat) : Int) (nI (odz k s n (many13 n))) := by
  have hP : many13 n ≤ 255 := by unfold many13; omega
  intro d
  induction d with
  | zero =>
    intro i fuel hd hf
    obtain ⟨m, rfl⟩ : ∃ m, fuel = m + 1 := ⟨fuel - 1, by omega⟩
    obtain rfl : i = many13 n := by omega
    have hle : n ≤ 32 * many13 n := by unfold many13; omega
    simp only [L291_0, show ¬ (((32 * many13 n : Nat) : Int) < (n : Int)) by omega, decide_false, cond_false]
  | succ d ih =>
    intro i fuel hd hf
    obtain ⟨m, rfl⟩ : ∃ m, fuel = m + 1 := ⟨fuel - 1, by omega⟩
    have hlt : 32 * i < n := by unfold many13 at hd; omega
    have hF := F (pcz k s n i ++ (s ++ (le2 n ++ [(i + 1) % 256]))) (bel_app (pcz_bel _ _ _ _) (bel_app hs (bel_app (le2_bel n) (fun x hx => by simp at hx; omega)))) (by have := pcz_len k s n i; simp [le2]; omega)
    rw [show hm k (pcz k s n i ++ (s ++ (le2 n ++ [(i + 1) % 256]))) = pcz k s n (i + 1) from rfl] at hF
    have e : (nI (pcz k s n i) ++ nI s) ++ [IntKind.wrap .u8 (irem (n : Int) 256), IntKind.wrap .u8 (iquo .i64 (n : Int) 256), IntKind.wrap .u8 (iadd .i64 (i : Int) 1)] = nI (pcz k s n i ++ (s ++ (le2 n ++ [(i + 1) % 256]))) := by
      rw [show irem (n : Int) 256 = ((n % 256 : Nat) : Int) from irem_n n 256, iquo256 (by omega), up1 (by omega), w8, w8, w8, Nat.mod_mod]
      simp [nI, le2]
    have hl := pcz_len k s n i
    have hlen : (pcz k s n i ++ (s ++ (le2 n ++ [(i + 1) % 256]))).length = (pcz k s n i).length + s.length + 3 := by simp [le2]; omega
    have hw := pcz_len' k s n i
    have ht : List.take ((pcz k s n i).length + s.length + 3) (List.drop 0 (nI (pcz k s n i ++ (s ++ (le2 n ++ [(i + 1) % 256]))))) = nI (pcz k s n i ++ (s ++ (le2 n ++ [(i + 1) % 256]))) := by
      rw [List.drop_zero, List.take_of_length_le (by rw [nI_len, hlen]; exact Nat.le_refl _)]
    simp only [L291_0, show (((32 * i : Nat) : Int) < (n : Int)) by omega, decide_true, cond_true, e, nI_len, hlen, ht, hF]
    simp only [row32' hw, t32 hw]
    simp only [nI_len, hw, odz_len, List.length_append, Nat.mul_one, Nat.zero_add, beq_self_eq_true, Nat.le_refl, decide_true, cond_true, Bool.and_self, Bool.true_and, nI_app, show (pcz k s n i).length ≤ 1099511627776 by omega, show (pcz k s n i).length + s.length ≤ 1099511627776 by omega, show (pcz k s n i).length + s.length + 3 ≤ 1099511627776 by omega, show 32 * i + 32 ≤ 1099511627776 by omega]
    rw [up1 (by omega)]
    exact ih (i + 1) m (by omega) (by omega)
theorem p291_is {N : Nat} (hN : 300 < N) {k s : List Nat} {n : Nat} (F : ∀ m, bel 256 m → m.length ≤ 5000 → c222 (nI k) (nI m) = some (nI (hm k m))) (hs : bel 256 s) (hsl : s.length ≤ 2000) (h1 : 1 ≤ n) (h2 : n ≤ 8160) : p291 c222 N (nI k) (nI s) (n : Int) = some (nI (drv k s n), (((many13 n : Nat) : Int), 0)) := by
  unfold p291
  rw [show decide ((n : Int) < 1) = false from decide_eq_false (by omega), show decide ((n : Int) > 8160) = false from decide_eq_false (by omega), cond_false, cond_false]
  have hm : many13 n ≤ 255 := by unfold many13; omega
  refine (L291_is N _ k s n F hs hsl h1 h2 (many13 n) 0 N (by omega) (by omega)).trans ?_
  have hle : n ≤ 32 * many13 n := by unfold many13; omega
  simp only [show (0 : Int) ≤ (n : Int) by omega, show (n : Int) ≤ ((32 * many13 n : Nat) : Int) by omega, decide_true, Bool.and_self, cond_true, Int.toNat_natCast, nI_len, odz_len, Nat.zero_add, Nat.mul_one, hle, List.drop_zero, nI_take]
  rfl
theorem p291_low {N : Nat} {a b : List Int} {z : Int} (h : z < 1) : p291 c222 N a b z = some ([], (0, 1)) := by
  unfold p291
  rw [decide_eq_true h]; rfl
theorem p291_high {N : Nat} {a b : List Int} {z : Int} (h : 8160 < z) : p291 c222 N a b z = some ([], (0, 8)) := by
  unfold p291
  rw [show decide (z < 1) = false from decide_eq_false (by omega), show decide (z > 8160) = true from decide_eq_true (by omega)]; rfl
end
def h291 (a b : List Int) (z : Int) := p291 h222 400 a b z
theorem E291 : EntOK FT XT 291 (en291 h291) := ok291 h222 E222 fun _ _ _ _ h => ⟨400, h⟩
theorem h291_in {k s : List Nat} {n : Nat} (hk : bel 256 k) (hkl : k.length ≤ 6000) (hs : bel 256 s) (hsl : s.length ≤ 2000) (h1 : 1 ≤ n) (h2 : n ≤ 8160) : h291 (nI k) (nI s) (n : Int) = some (nI (drv k s n), (((many13 n : Nat) : Int), 0)) :=
  p291_is (by omega) (fun m h1 h2 => h222_is hk hkl h1 h2) hs hsl h1 h2
/-- both, whatever the length -/
theorem both13 {k s : List Nat} {z : Int} (hk : bel 256 k) (hkl : k.length ≤ 6000) (hs : bel 256 s) (hsl : s.length ≤ 2000) : ∃ l : List Nat, ∃ e q : Int, h290 (nI k) (nI s) z = some (nI l, e) ∧ h291 (nI k) (nI s) z = some (nI l, (q, e)) ∧ h292 (nI k) (nI s) z = some q ∧ l.length ≤ 8160 := by
  by_cases h1 : z < 1
  · exact ⟨[], 1, 0, p290_out (h307_low h1) (by decide), p291_low h1, h292_out (.inl h1), Nat.zero_le _⟩
  · by_cases h2 : 8160 < z
    · exact ⟨[], 8, 0, p290_out (h307_high h2) (by decide), p291_high h2, h292_out (.inr h2), Nat.zero_le _⟩
    · obtain ⟨n, rfl⟩ : ∃ n : Nat, z = (n : Int) := ⟨z.toNat, by omega⟩
      exact ⟨drv k s n, 0, _, h290_in hk hkl hs hsl (by omega) (by omega), h291_in hk hkl hs hsl (by omega) (by omega), h292_in (by omega) (by omega), by rw [drv_len]; omega⟩
/-! ### binding keys and seals -/
def sd13 : List Nat := [83, 83, 84, 80, 32, 105, 110, 110, 101, 114, 32, 109, 101, 116, 104, 111, 100, 32, 100, 101, 114, 105, 118, 101, 100, 32, 67, 77, 75]
theorem sd13_bel : bel 256 sd13 := by unfold sd13; intro x hx; simp at hx; omega
def bnd13 (u : List Nat) : List Nat := drv u sd13 32
theorem bnd13_len (u : List Nat) : (bnd13 u).length = 32 := drv_len _ _ _
theorem bnd13_bel (u : List Nat) : bel 256 (bnd13 u) := drv_bel _ _ _
section
variable {c290 : List Int → List Int → Int → Option ((List Int) × Int)} {c291 : List Int → List Int → Int → Option ((List Int) × Int × Int)} {c223 : List Int → List (List Int) → Option (List Int)} {c226 : List Int → List Int → List (List Int) → Option Bool}
theorem p293_is {u : List Nat} (hu : u.length = 32) (F : c290 (nI u) (nI sd13) 32 = some (nI (bnd13 u), 0)) : p293 c290 0 (nI u) = some (nI (bnd13 u)) := by
  have hb := bnd13_len u
  unfold p293
  rw [show ([83, 83, 84, 80, 32, 105, 110, 110, 101, 114, 32, 109, 101, 116, 104, 111, 100, 32, 100, 101, 114, 105, 118, 101, 100, 32, 67, 77, 75] : List Int) = nI sd13 from rfl]
  simp only [t32 hu, F, t32 hb, row32 hb]
  simp only [nI_len, hu, hb, Nat.le_refl, decide_true, cond_true, beq_self_eq_true, Nat.zero_add]
theorem L294_is (N : Nat) (q : List Int → List Int → Option (List Int)) (l : List Nat) (hl : l.length = 32) (z : List Int) : ∀ (d i fuel : Nat), i + d = 32 → d < fuel →
    L294_0 c291 N q fuel (nI l) (i : Int) z (nI (l.take i ++ List.replicate (32 - i) 0)) = q z (nI l) := by
  intro d
  induction d with
  | zero =>
    intro i fuel hd hf
    obtain ⟨m, rfl⟩ : ∃ m, fuel = m + 1 := ⟨fuel - 1, by omega⟩
    obtain rfl : i = 32 := by omega
    simp only [L294_0, show ¬ (((32 : Nat) : Int) < 32) by omega, decide_false, cond_false]
    rw [List.take_of_length_le (by omega), Nat.sub_self, List.replicate_zero, List.append_nil]
  | succ d ih =>
    intro i fuel hd hf
    obtain ⟨m, rfl⟩ : ∃ m, fuel = m + 1 := ⟨fuel - 1, by omega⟩
    have hi : i < l.length := by omega
    have hs : (nI (l.take i ++ List.replicate (32 - i) 0)).set i ((gt l i : Nat) : Int) = nI (l.take (i + 1) ++ List.replicate (32 - (i + 1)) 0) := by
      rw [nI_set, List.set_append_right _ _ (by rw [List.length_take]; omega), List.length_take, Nat.min_eq_left (by omega), Nat.sub_self]
      have e : List.replicate (32 - i) 0 = 0 :: List.replicate (32 - (i + 1)) 0 := by rw [show 32 - i = (32 - (i + 1)) + 1 by omega, List.replicate_succ]
      rw [e, List.set_cons_zero, List.take_add_one, List.getElem?_eq_getElem hi, gt_el hi]
      simp
    simp only [L294_0, show ((i : Int) < 32) by omega, show (0 : Int) ≤ (i : Int) by omega, decide_true, cond_true, geti_nat, getn hi, Bool.and_self, Int.toNat_natCast, Nat.mul_one, Nat.zero_add, hs]
    simp only [nI_len, List.length_append, List.length_take, List.length_replicate, show i < min i l.length + (32 - i) by omega, decide_true, cond_true, up1 (show i < 2 ^ 62 by omega)]
    exact ih (i + 1) m (by omega) (by omega)
theorem p294_is {N : Nat} (hN : 40 < N) {u : List Nat} {q : Int} (hu : u.length = 32) (F : c291 (nI u) (nI sd13) 32 = some (nI (bnd13 u), (q, 0))) : p294 c291 N (nI u) = some (nI (bnd13 u)) := by
  have hb := bnd13_len u
  unfold p294
  rw [show ([83, 83, 84, 80, 32, 105, 110, 110, 101, 114, 32, 109, 101, 116, 104, 111, 100, 32, 100, 101, 114, 105, 118, 101, 100, 32, 67, 77, 75] : List Int) = nI sd13 from rfl]
  simp only [t32 hu, F]
  rw [nI_len, hu]
  simp only [Nat.le_refl, decide_true, cond_true]
  refine (L294_is N _ (bnd13 u) hb _ 32 0 N (by omega) (by omega)).trans ?_
  have e : ((List.take 0 ([(0 : Int), 0, 0, 0, 0, 0, 0, 0, 0, 0, 0, 0, 0, 0, 0, 0, 0, 0, 0, 0, 0, 0, 0, 0, 0, 0, 0, 0, 0, 0, 0, 0] : List Int)) ++ nI (bnd13 u)) ++ List.drop (0 + (nI (bnd13 u)).length) ([(0 : Int), 0, 0, 0, 0, 0, 0, 0, 0, 0, 0, 0, 0, 0, 0, 0, 0, 0, 0, 0, 0, 0, 0, 0, 0, 0, 0, 0, 0, 0, 0, 0] : List Int) = nI (bnd13 u) := row32 hb
  simp only [t32 hb, e]
  simp only [nI_len, hb, Nat.le_refl, decide_true, cond_true, beq_self_eq_true, Nat.zero_add]
  rfl
theorem p295_is {k m : List Nat} (hk : k.length = 32) (F : c223 (nI k) [nI m] = some (nI (hm k m))) : p295 c223 0 (nI k) (nI m) = some (nI (hm k m)) := by
  have hb := hm_len k m
  unfold p295
  simp only [t32 hk, F, row32 hb, t32 hb]
  simp only [nI_len, hk, hb, Nat.le_refl, decide_true, cond_true, beq_self_eq_true, Nat.zero_add]
theorem p296_is {k m a : List Nat} {b : Bool} (hk : k.length = 32) (F : c226 (nI k) (nI a) [nI m] = some b) : p296 c226 0 (nI k) (nI m) (nI a) = some b := by
  unfold p296
  simp only [t32 hk, F]
  simp only [nI_len, hk, Nat.le_refl, decide_true, cond_true]
end
def h293 (u : List Int) := p293 h290 0 u
theorem E293 : EntOK FT XT 293 (en293 h293) := ok293 h290 E290 fun _ _ h => ⟨0, h⟩
theorem h293_is {u : List Nat} (hu : u.length = 32) (hb : bel 256 u) : h293 (nI u) = some (nI (bnd13 u)) :=
  p293_is hu (h290_in (n := 32) hb (by omega) sd13_bel (by decide) (by omega) (by omega))
def h294 (u : List Int) := p294 h291 50 u
theorem E294 : EntOK FT XT 294 (en294 h294) := ok294 h291 E291 fun _ _ h => ⟨50, h⟩
theorem h294_is {u : List Nat} (hu : u.length = 32) (hb : bel 256 u) : h294 (nI u) = some (nI (bnd13 u)) :=
  p294_is (by omega) hu (h291_in (n := 32) hb (by omega) sd13_bel (by decide) (by omega) (by omega))
def h295 (k m : List Int) := p295 h223 0 k m
theorem E295 : EntOK FT XT 295 (en295 h295) := ok295 h223 E223 fun _ _ _ h => ⟨0, h⟩
theorem h295_is {k m : List Nat} (hk : k.length = 32) (hb : bel 256 k) (hm1 : bel 256 m) (hml : m.length ≤ 5000) : h295 (nI k) (nI m) = some (nI (hm k m)) :=
  p295_is hk (h223_is hb (by omega) hm1 hml (by simp) (by simp))
def h296 (k m a : List Int) := p296 h226 0 k m a
theorem E296 : EntOK FT XT 296 (en296 h296) := ok296 h226 E226 fun _ _ _ _ h => ⟨0, h⟩
theorem h296_is {k m a : List Nat} (hk : k.length = 32) (hb : bel 256 k) (hm1 : bel 256 m) (hml : m.length ≤ 5000) (ha : bel 256 a) : h296 (nI k) (nI m) (nI a) = some (hm k m == a) :=
  p296_is hk (h226_is hb (by omega) hm1 hml (by simp) (by simp) ha)
/-! ### a probe -/
def z32 : List Nat := List.replicate 32 0
theorem z32_bel : bel 256 z32 := bel_rep (by omega)
theorem bnd13_z : ((nI (bnd13 z32)) == ([(0 : Int), 0, 0, 0, 0, 0, 0, 0, 0, 0, 0, 0, 0, 0, 0, 0, 0, 0, 0, 0, 0, 0, 0, 0, 0, 0, 0, 0, 0, 0, 0, 0] : List Int)) = false := by kernel_rfl
theorem p289_is {c290 : List Int → List Int → Int → Option ((List Int) × Int)} {c293 : List Int → Option (List Int)} {c295 : List Int → List Int → Option (List Int)} {c296 : List Int → List Int → List Int → Option Bool} {c292 : List Int → List Int → Int → Option Int} {l b s : List Nat}
    (F1 : c290 [] [] 33 = some (nI l, 0)) (hl : l.length = 33) (F2 : c293 ([(0 : Int), 0, 0, 0, 0, 0, 0, 0, 0, 0, 0, 0, 0, 0, 0, 0, 0, 0, 0, 0, 0, 0, 0, 0, 0, 0, 0, 0, 0, 0, 0, 0] : List Int) = some (nI b)) (hb : b.length = 32) (hz : ((nI b) == ([(0 : Int), 0, 0, 0, 0, 0, 0, 0, 0, 0, 0, 0, 0, 0, 0, 0, 0, 0, 0, 0, 0, 0, 0, 0, 0, 0, 0, 0, 0, 0, 0, 0] : List Int)) = false) (F3 : c295 (nI b) [] = some (nI s)) (hs : s.length = 32) (F4 : c296 (nI b) [] (nI s) = some true) (F5 : c292 [] [] 33 = some 2) : p289 c290 c293 c295 c296 c292 0 = some true := by
  unfold p289
  simp only [F1, F2, row32 hb, t32 hb, F3, row32 hs, t32 hs, hz, F4, F5]
  simp only [nI_len, hb, hs, hl, Nat.le_refl, decide_true, cond_true, beq_self_eq_true, Nat.zero_add, Bool.not_false, Bool.and_self]
  rfl
def f289 : Option Bool := some true
theorem E289 : EntOK FT XT 289 (en289 f289) := ok289 h290 h293 h295 h296 h292 E290 E293 E295 E296 E292 fun r h => ⟨0, by
  rw [← h]
  have nb : bel 256 ([] : List Nat) := fun x hx => by cases hx
  exact p289_is (b := bnd13 z32) (l := drv [] [] 33) (s := hm (bnd13 z32) []) (h290_in (k := []) (s := []) (n := 33) nb (by simp) nb (by simp) (by omega) (by omega)) (drv_len _ _ _) (h293_is (u := z32) rfl z32_bel) (bnd13_len _) bnd13_z
    (h295_is (m := []) (bnd13_len _) (bnd13_bel _) nb (by simp)) (hm_len _ _) (by rw [show ([] : List Int) = nI [] from rfl, h296_is (m := []) (bnd13_len _) (bnd13_bel _) nb (by simp) (hm_bel _ _), beq_self_eq_true]) (h292_in (a := []) (b := []) (n := 33) (by omega) (by omega))⟩
/-! ### laws -/
section
variable {c289 : Option Bool} {c290 : List Int → List Int → Int → Option ((List Int) × Int)} {c291 : List Int → List Int → Int → Option ((List Int) × Int × Int)} {c23 : List Int → List Int → Option Bool} {c292 : List Int → List Int → Int → Option Int} {c293 c294 : List Int → Option (List Int)} {c222 c295 : List Int → List Int → Option (List Int)} {c296 : List Int → List Int → List Int → Option Bool}
theorem p284_is {N : Nat} {a b : List Int} {z : Int} (A : c289 = some true) (F : a.length ≤ 200 → b.length ≤ 200 → ∃ l : List Int, ∃ e q : Int, c290 a b z = some (l, e) ∧ c291 a b z = some (l, (q, e)) ∧ c292 a b z = some q ∧ c23 l l = some true) : p284 c289 c290 c291 c23 c292 N a b z = some true := by
  unfold p284
  simp only [A]
  by_cases h1 : a.length ≤ 200
  · by_cases h2 : b.length ≤ 200
    · obtain ⟨l, e, q, g1, g2, g3, g4⟩ := F h1 h2
      simp only [g1, g2, g3, g4, beq_self_eq_true, cond_true]
      cases decide (((List.length a : Nat) : Int) > 200) <;> cases decide (((List.length b : Nat) : Int) > 200) <;> cases decide (z > 700) <;> cases decide (z ≤ 8160) <;> rfl
    · rw [show decide (((List.length b : Nat) : Int) > 200) = true from decide_eq_true (by omega), cond_true]
      cases decide (((List.length a : Nat) : Int) > 200) <;> rfl
  · rw [show decide (((List.length a : Nat) : Int) > 200) = true from decide_eq_true (by omega), cond_true]
theorem p285_is {N : Nat} {u m a b s : List Nat} {t : Bool} (A : c289 = some true) (hu : u.length = 32) (hb : b.length = 32) (hs : s.length = 32) (F1 : c293 (nI u) = some (nI b)) (F2 : c294 (nI u) = some (nI b))
    (F : m.length ≤ 300 → a.length ≤ 100 → c222 (nI b) (nI m) = some (nI s) ∧ c295 (nI b) (nI m) = some (nI s) ∧ c296 (nI b) (nI m) (nI a) = some t ∧ c23 (nI s) (nI a) = some t ∧ c296 (nI b) (nI m) (nI s) = some true) : p285 c289 c293 c222 c294 c295 c296 c23 N (nI u) (nI m) (nI a) = some true := by
  unfold p285
  simp only [A]
  by_cases h1 : m.length ≤ 300
  · by_cases h2 : a.length ≤ 100
    · obtain ⟨g1, g2, g3, g4, g5⟩ := F h1 h2
      simp only [t32 hu, F1, F2, row32 hb, t32 hb, g1, row32 hs, t32 hs, g2, g3, g4, g5, beq_self_eq_true, cond_true]
      simp only [nI_len, hu, hb, hs, Nat.le_refl, decide_true, cond_true, beq_self_eq_true, Nat.zero_add, Bool.and_self]
      cases decide (((List.length m : Nat) : Int) > 300) <;> cases decide (((List.length a : Nat) : Int) > 100) <;> rfl
    · rw [nI_len, nI_len, show decide (((List.length a : Nat) : Int) > 100) = true from decide_eq_true (by omega), cond_true]
      cases decide (((List.length m : Nat) : Int) > 300) <;> rfl
  · rw [nI_len, show decide (((List.length m : Nat) : Int) > 300) = true from decide_eq_true (by omega), cond_true]
theorem p286_is {N : Nat} {a b : List Int} {x y : Nat} {l : List Int} (A : c289 = some true) (F : a.length ≤ 200 → b.length ≤ 200 → c290 a b ((1 + x % 300 : Nat) : Int) = some (l, 0) ∧ l.length = 1 + x % 300 ∧ c292 a b ((1 + x % 300 : Nat) : Int) = some ((many13 (1 + x % 300) : Nat) : Int) ∧ c292 a b ((1 + y % 300 : Nat) : Int) = some ((many13 (1 + y % 300) : Nat) : Int) ∧ c23 l l = some true) : p286 c289 c290 c292 c23 N a b [(x : Int), (y : Int)] = some true := by
  unfold p286
  simp only [A]
  have e : ∀ x : Nat, iadd .i64 1 (IntKind.wrap .i64 (irem (x : Int) 300)) = ((1 + x % 300 : Nat) : Int) := fun x => by
    rw [show irem (x : Int) 300 = ((x % 300 : Nat) : Int) from irem_n x 300, wrap_i64 (by omega) (by omega), show (1 : Int) = ((1 : Nat) : Int) from rfl, addn (by omega)]
  by_cases h1 : a.length ≤ 200
  · by_cases h2 : b.length ≤ 200
    · obtain ⟨g1, g2, g3, g4, g5⟩ := F h1 h2
      have m32 : ∀ n : Nat, n ≤ 400 → imul .i64 32 ((many13 n : Nat) : Int) = ((32 * many13 n : Nat) : Int) := fun n hn => by
        rw [show (32 : Int) = ((32 : Nat) : Int) from rfl, muln (by unfold many13; omega)]
      have a32 : iadd .i64 ((1 + x % 300 : Nat) : Int) 32 = ((1 + x % 300 + 32 : Nat) : Int) := addn (b := 32) (by omega)
      simp only [List.getElem?_cons_zero, List.getElem?_cons_succ, e, g1, g2, g3, g4, g5, beq_self_eq_true, cond_true, m32 (1 + x % 300) (by omega), a32]
      rw [show decide (((32 * many13 (1 + x % 300) : Nat) : Int) ≥ ((1 + x % 300 : Nat) : Int)) = true from decide_eq_true (by unfold many13; omega), show decide (((32 * many13 (1 + x % 300) : Nat) : Int) < ((1 + x % 300 + 32 : Nat) : Int)) = true from decide_eq_true (by unfold many13; omega)]
      rw [show decide (((List.length a : Nat) : Int) > 200) = false from decide_eq_false (by omega), show decide (((List.length b : Nat) : Int) > 200) = false from decide_eq_false (by omega)]
      by_cases hxy : 1 + y % 300 < 1 + x % 300
      · rw [show decide (((1 + y % 300 : Nat) : Int) < ((1 + x % 300 : Nat) : Int)) = true from decide_eq_true (by omega)]; rfl
      · rw [show decide (((1 + y % 300 : Nat) : Int) < ((1 + x % 300 : Nat) : Int)) = false from decide_eq_false (by omega), show decide (((many13 (1 + y % 300) : Nat) : Int) ≥ ((many13 (1 + x % 300) : Nat) : Int)) = true from decide_eq_true (by unfold many13; omega)]; rfl
    · rw [show decide (((List.length b : Nat) : Int) > 200) = true from decide_eq_true (by omega), cond_true]
      cases decide (((List.length a : Nat) : Int) > 200) <;> rfl
  · rw [show decide (((List.length a : Nat) : Int) > 200) = true from decide_eq_true (by omega), cond_true]
end
theorem f23_nI {a b : List Nat} (h : a.length < 1099511627776) : f23 (nI a) (nI b) = some (a == b) := by
  unfold f23
  rw [if_pos (by rw [nI_len]; exact h), nI_beq]
theorem wf8s {l : List Int} (h : ∀ x ∈ l, (Lit.int .u8 x).wf = true) : ∃ r : List Nat, l = nI r ∧ bel 256 r := by
  obtain ⟨r, rfl⟩ := nI_of (fun x hx => (wf_u (k := .u8) rfl (h x hx)).1)
  refine ⟨r, rfl, fun x hx => ?_⟩
  have := (wf_u (k := .u8) rfl (h (x : Int) (by unfold nI; exact List.mem_map.2 ⟨x, hx, rfl⟩))).2
  have : (x : Int) < 256 := this
  omega
def f284 (a b : List Int) (z : Int) : Option Bool := p284 f289 h290 h291 f23 h292 0 a b z
theorem E284 : EntOK FT XT 284 (en284 f284) := ok284 f289 h290 h291 f23 h292 E289 E290 E291 E23 E292 fun _ _ _ _ h => ⟨0, h⟩
theorem law284 (z0 z1 : List Int) (z2 : Int) (h0 : z0.length ≤ maxLen ∧ ∀ x ∈ z0, (Lit.int .u8 x).wf = true) (h1 : z1.length ≤ maxLen ∧ ∀ x ∈ z1, (Lit.int .u8 x).wf = true) (h2 : (Lit.int .i64 z2).wf = true) : Ans FT XT 284 (encL [Sh.sl (.int .u8), Sh.sl (.int .u8), Sh.int .i64] (z0, (z1, (z2, ())))) [] (.bool true) [] := by
  obtain ⟨k, rfl, hk⟩ := wf8s h0.2
  obtain ⟨s, rfl, hs⟩ := wf8s h1.2
  refine E284.2 (nI k, (nI s, (z2, ()))) true (p284_is (N := 0) rfl (fun g1 g2 => ?_))
  rw [nI_len] at g1 g2
  obtain ⟨l, e, q, e1, e2, e3, e4⟩ := both13 (z := z2) hk (by omega) hs (by omega)
  exact ⟨nI l, e, q, e1, e2, e3, f23_same (by rw [nI_len]; omega)⟩
def f285 (a b c : List Int) : Option Bool := p285 f289 h293 h222 h294 h295 h296 f23 0 a b c
theorem E285 : EntOK FT XT 285 (en285 f285) := ok285 f289 h293 h222 h294 h295 h296 f23 E289 E293 E222 E294 E295 E296 E23 fun _ _ _ _ h => ⟨0, h⟩
theorem law285 (z0 z1 z2 : List Int) (h0 : ∀ x ∈ z0, (Lit.int .u8 x).wf = true) (h1 : z1.length ≤ maxLen ∧ ∀ x ∈ z1, (Lit.int .u8 x).wf = true) (h2 : z2.length ≤ maxLen ∧ ∀ x ∈ z2, (Lit.int .u8 x).wf = true) (hs : z0.length = 32) : Ans FT XT 285 (encL [Sh.ar .u8, Sh.sl (.int .u8), Sh.sl (.int .u8)] (z0, (z1, (z2, ())))) [] (.bool true) [] := by
  obtain ⟨u, rfl, hu⟩ := wf8s h0
  obtain ⟨m, rfl, hm1⟩ := wf8s h1.2
  obtain ⟨a, rfl, ha⟩ := wf8s h2.2
  rw [nI_len] at hs
  refine E285.2 (nI u, (nI m, (nI a, ()))) true (p285_is (N := 0) (t := (hm (bnd13 u) m == a)) rfl hs (bnd13_len u) (hm_len (bnd13 u) m) (h293_is hs hu) (h294_is hs hu) (fun g1 g2 => ?_))
  have hb := bnd13_bel u
  have hl := bnd13_len u
  exact ⟨h222_is hb (by omega) hm1 (by omega), h295_is hl hb hm1 (by omega), h296_is hl hb hm1 (by omega) ha, f23_nI (by rw [hm_len]; omega), by rw [h296_is hl hb hm1 (by omega) (hm_bel _ _), beq_self_eq_true]⟩
def f286 (a b c : List Int) : Option Bool := p286 f289 h290 h292 f23 0 a b c
theorem E286 : EntOK FT XT 286 (en286 f286) := ok286 f289 h290 h292 f23 E289 E290 E292 E23 fun _ _ _ _ h => ⟨0, h⟩
theorem law286 (z0 z1 z2 : List Int) (h0 : z0.length ≤ maxLen ∧ ∀ x ∈ z0, (Lit.int .u8 x).wf = true) (h1 : z1.length ≤ maxLen ∧ ∀ x ∈ z1, (Lit.int .u8 x).wf = true) (h2 : ∀ x ∈ z2, (Lit.int .u16 x).wf = true) (hs : z2.length = 2) : Ans FT XT 286 (encL [Sh.sl (.int .u8), Sh.sl (.int .u8), Sh.ar .u16] (z0, (z1, (z2, ())))) [] (.bool true) [] := by
  obtain ⟨k, rfl, hk⟩ := wf8s h0.2
  obtain ⟨s, rfl, hs1⟩ := wf8s h1.2
  obtain ⟨r, rfl⟩ := nI_of (fun x hx => (wf_u (k := .u16) rfl (h2 x hx)).1)
  rw [nI_len] at hs
  match r, hs with
  | [x, y], _ =>
    refine E286.2 (nI k, (nI s, (nI [x, y], ()))) true (p286_is (N := 0) (l := nI (drv k s (1 + x % 300))) rfl (fun g1 g2 => ?_))
    rw [nI_len] at g1 g2
    exact ⟨h290_in hk (by omega) hs1 (by omega) (by omega) (by omega), by rw [nI_len, drv_len], h292_in (by omega) (by omega), h292_in (by omega) (by omega), f23_same (by rw [nI_len, drv_len]; omega)⟩
end Go.Proofs.YtciafmcbccgggaaE
