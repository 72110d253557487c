/- Chapter 13: derivations, binding keys, seals. -/
import Derived.Test.YtciafmcbccgggaaEvzI1
namespace Go.Proofs.YtciafmcbccgggaaE
open Go
set_option linter.unusedSimpArgs false
set_option linter.unusedVariables false
/-- the piece of a number, from 1 on -/
def pcz (k s : List Nat) (L : Nat) : Nat → List Nat
 | 0 => []
 | n + 1 => hm k (pcz k s L n ++ (s ++ (le2 L ++ [(n + 1) % 256])))
def odz (k s : List Nat) (L : Nat) : Nat → List Nat
 | 0 => []
 | n + 1 => odz k s L n ++ pcz k s L (n + 1)
theorem pcz_len (k s : List Nat) (L n : Nat) : (pcz k s L n).length ≤ 32 := by
 cases n with
 | zero => exact Nat.zero_le _
 | succ n => rw [pcz, hm_len]; exact Nat.le_refl _
theorem pcz_len' (k s : List Nat) (L n : Nat) : (pcz k s L (n + 1)).length = 32 := by rw [pcz, hm_len]
theorem pcz_bel (k s : List Nat) (L n : Nat) : bel 256 (pcz k s L n) := by
 cases n with
 | zero => exact fun x hx => by cases hx
 | succ n => rw [pcz]; exact hm_bel _ _
theorem odz_len (k s : List Nat) (L : Nat) : ∀ n, (odz k s L n).length = 32 * n
 | 0 => rfl
 | n + 1 => by rw [odz, List.length_append, odz_len k s L n, pcz_len']; omega
theorem odz_bel (k s : List Nat) (L : Nat) : ∀ n, bel 256 (odz k s L n)
 | 0 => fun x hx => by cases hx
 | n + 1 => by rw [odz]; exact bel_app (odz_bel k s L n) (pcz_bel _ _ _ _)
def many13 (n : Nat) : Nat := (n + 31) / 32
def drv (k s : List Nat) (n : Nat) : List Nat := (odz k s n (many13 n)).take n
theorem drv_len (k s : List Nat) (n : Nat) : (drv k s n).length = n := by
 unfold drv
 rw [List.length_take, odz_len]
 unfold many13
 omega
theorem drv_bel (k s : List Nat) (n : Nat) : bel 256 (drv k s n) := bel_take (odz_bel _ _ _ _)
theorem le2_bel (n : Nat) : bel 256 (le2 n) := fun x hx => by simp [le2] at hx; omega
theorem row32 {r : List Nat} (h : r.length = 32) : ([] ++ nI r) ++ List.drop (0 + (nI r).length) ([(0 : Int), 0, 0, 0, 0, 0, 0, 0, 0, 0, 0, 0, 0, 0, 0, 0, 0, 0, 0, 0, 0, 0, 0, 0, 0, 0, 0, 0, 0, 0, 0, 0] : List Int) = nI r := row_in (k := 32) (by rw [nI_len]; exact h) rfl
theorem row32' {r : List Nat} (h : r.length = 32) : ([] ++ nI r) ++ List.drop (0 + r.length) ([(0 : Int), 0, 0, 0, 0, 0, 0, 0, 0, 0, 0, 0, 0, 0, 0, 0, 0, 0, 0, 0, 0, 0, 0, 0, 0, 0, 0, 0, 0, 0, 0, 0] : List Int) = nI r := by
 have := row32 h
 rwa [nI_len] at this
def h307 (n : Int) := p307 0 n
theorem E307 : EntOK FT XT 307 (en307 h307) := ok307 fun _ _ h => ⟨0, h⟩
def h292 (a b : List Int) (n : Int) := p292 h307 0 a b n
theorem E292 : EntOK FT XT 292 (en292 h292) := ok292 h307 E307 fun _ _ _ _ h => ⟨0, h⟩
theorem h307_in {n : Nat} (h1 : 1 ≤ n) (h2 : n ≤ 8160) : h307 (n : Int) = some 0 := by
 unfold h307 p307
 rw [show decide ((n : Int) < 1) = false from decide_eq_false (by omega), show decide ((n : Int) > 8160) = false from decide_eq_false (by omega)]; rfl
theorem h292_in {a b : List Int} {n : Nat} (h1 : 1 ≤ n) (h2 : n ≤ 8160) : h292 a b (n : Int) = some ((many13 n : Nat) : Int) := by
 unfold h292 p292
 rw [h307_in h1 h2]
 have e1 : iadd .i64 (n : Int) 32 = ((n + 32 : Nat) : Int) := addn (b := 32) (by omega)
 have e2 : isub .i64 ((n + 32 : Nat) : Int) 1 = ((n + 31 : Nat) : Int) := by rw [show (1 : Int) = ((1 : Nat) : Int) from rfl, subn (by omega) (by omega)]; rfl
 have e3 : iquo .i64 ((n + 31 : Nat) : Int) 32 = (((n + 31) / 32 : Nat) : Int) := quon (b := 32) (by omega)
 rw [e1, e2, e3]; rfl
section
variable {c223 : List Int → List (List Int) → Option (List Int)}
theorem p308_is {k s m T last : List Nat} {i o : Nat} {out : List Int} {r : List Nat} (hr : r.length = 32) (F : c223 (nI k) [nI last, nI s, nI T, [IntKind.wrap .u8 (i : Int)]] = some (nI r)) (ho : out.length = o) (hs : o ≤ 100000) :
  p308v0 c223 0 (i : Int) (nI k) (nI last) (nI s) (nI T) o out = some (((), ()), ((nI k, ()), (((32, 32), ()), ((nI s, ()), ((nI T, ()), (((o + 32), ()), ((), (nI r, ((out ++ nI r), ()))))))))) := by
 unfold p308v0
 rw [F]
 simp only [row32 hr, t32 hr]
 simp only [nI_len, hr, ho, beq_self_eq_true, cond_true, Nat.zero_add, Nat.mul_one, Nat.le_refl, decide_true, show o + 32 ≤ 1099511627776 by omega, Bool.and_self]
end
def h308 (a : Int) (b c d e : List Int) (n : Nat) (l : List Int) := p308v0 h223 0 a b c d e n l
theorem R308 : REntOK FT XT 308 (rn308v0 h308) := ok308v0 h223 E223 fun _ _ _ _ _ _ _ _ h => ⟨0, h⟩
theorem h308_is {k s T last : List Nat} {i o : Nat} {out : List Int} (hk : bel 256 k) (hkl : k.length ≤ 6000) (hs : bel 256 s) (hT : bel 256 T) (hl : bel 256 last) (hsl : s.length ≤ 2000) (hTl : T.length = 2) (hll : last.length ≤ 32) (ho : out.length = o) (ho2 : o ≤ 100000) :
  h308 (i : Int) (nI k) (nI last) (nI s) (nI T) o out = some (((), ()), ((nI k, ()), (((32, 32), ()), ((nI s, ()), ((nI T, ()), (((o + 32), ()), ((), (nI (hm k (last ++ (s ++ (T ++ [i % 256])))), ((out ++ nI (hm k (last ++ (s ++ (T ++ [i % 256]))))), ()))))))))) := by
 refine p308_is (m := []) (hm_len _ _) ?_ ho ho2
 rw [w8]
 exact h223_is hk hkl (bel_app hl (bel_app hs (bel_app hT (fun x hx => by simp at hx; omega)))) (by simp; omega) (by simp [← nI_app, nI]) (by simp)
section
variable {c307 : Int → Option Int} {c19 : Int → Int → Bool → Option ((List Int) × Int)} {c292 : List Int → List Int → Int → Option Int}
theorem L290_is (N : Nat) (q : Int → List Int → Nat → List Int → Option ((List Int) × Int)) (k s : List Nat) (n : Nat) (hk : bel 256 k) (hkl : k.length ≤ 6000) (hs : bel 256 s) (hsl : s.length ≤ 2000) (P : Nat) (hP : P ≤ 255) : ∀ (d i fuel : Nat), i + d = P → d < fuel →
  L290_0 c307 c19 c292 h308 N q fuel (n : Int) (P : Int) (i : Int) (nI (pcz k s n i)) (32 * i) (nI (odz k s n i)) (nI k) (nI s) (nI (le2 n)) = q (n : Int) (nI (pcz k s n P)) (32 * P) (nI (odz k s n P)) := by
 intro d
 induction d with
 | zero =>
  intro i fuel hd hf
  obtain ⟨m, rfl⟩ : ∃ m, fuel = m + 1 := ⟨fuel - 1, by omega⟩
  obtain rfl : i = P := by omega
  simp only [L290_0, show ¬ ((i : Int) < (i : Int)) by omega, decide_false, cond_false]
 | succ d ih =>
  intro i fuel hd hf
  obtain ⟨m, rfl⟩ : ∃ m, fuel = m + 1 := ⟨fuel - 1, by omega⟩
  have hF := h308_is (k := k) (s := s) (T := le2 n) (last := pcz k s n i) (i := i + 1) (o := 32 * i) (out := nI (odz k s n i)) hk hkl hs (le2_bel n) (pcz_bel _ _ _ _) hsl rfl (pcz_len _ _ _ _) (by rw [nI_len, odz_len]) (by omega)
  rw [show hm k (pcz k s n i ++ (s ++ (le2 n ++ [(i + 1) % 256]))) = pcz k s n (i + 1) from rfl] at hF
  simp only [L290_0, show ((i : Int) < (P : Int)) by omega, decide_true, cond_true, up1 (show i < 2 ^ 62 by omega), hF]
  simp only [nI_len, pcz_len', Nat.zero_add, Nat.mul_one, Nat.le_refl, decide_true, cond_true, t32 (pcz_len' k s n i), nI_app]
  exact ih (i + 1) m (by omega) (by omega)
theorem p290_is {N : Nat} (hN : 300 < N) {k s : List Nat} {n : Nat} (hk : bel 256 k) (hkl : k.length ≤ 6000) (hs : bel 256 s) (hsl : s.length ≤ 2000) (h1 : 1 ≤ n) (h2 : n ≤ 8160) (F1 : c307 (n : Int) = some 0) (F2 : c19 (n : Int) 2 true = some (nI (le2 n), 0)) (F3 : c292 (nI k) (nI s) (n : Int) = some ((many13 n : Nat) : Int)) :
  p290 c307 c19 c292 h308 N (nI k) (nI s) (n : Int) = some (nI (drv k s n), 0) := by
 unfold p290
 rw [F1]
 simp only [bne_self_eq_false, cond_false, w64 (show n < 2 ^ 64 by omega), F2, F3]
 have hm : many13 n ≤ 255 := by unfold many13; omega
 refine (L290_is N _ k s n hk hkl hs hsl (many13 n) hm (many13 n) 0 N (by omega) (by omega)).trans ?_
 have hle : n ≤ 32 * many13 n := by unfold many13; omega
 simp only [show (0 : Int) ≤ (n : Int) by omega, show (n : Int) ≤ ((32 * many13 n : Nat) : Int) by omega, decide_true, Bool.and_self, cond_true, Int.toNat_natCast, nI_len, odz_len, Nat.zero_add, Nat.mul_one, hle, List.drop_zero, nI_take]
 rfl
end
def h290 (a b : List Int) (z : Int) := p290 h307 h19 h292 h308 400 a b z
theorem E290 : EntOK FT XT 290 (en290 h290) := ok290 h307 h19 h292 h308 E307 E19 E292 R308 fun _ _ _ _ h => ⟨400, h⟩
theorem h290_in {k s : List Nat} {n : Nat} (hk : bel 256 k) (hkl : k.length ≤ 6000) (hs : bel 256 s) (hsl : s.length ≤ 2000) (h1 : 1 ≤ n) (h2 : n ≤ 8160) : h290 (nI k) (nI s) (n : Int) = some (nI (drv k s n), 0) :=
 p290_is (by omega) hk hkl hs hsl h1 h2 (h307_in h1 h2) (put_le2 n) (h292_in h1 h2)
section
variable {c222 : List Int → List Int → Option (List Int)}
theorem iquo256 {n : Nat} (h : n < 2 ^ 62) : iquo .i64 (n : Int) 256 = ((n / 256 : Nat) : Int) := quon (b := 256) h
theorem L291_is (N : Nat) (q : Int → Nat → Int → List Int → Option ((List Int) × Int × Int)) (k s : List Nat) (n : Nat) (F : ∀ m, bel 256 m → m.length ≤ 5000 → c222 (nI k) (nI m) = some (nI (hm k m))) (hs : bel 256 s) (hsl : s.length ≤ 2000) (h1 : 1 ≤ n) (h2 : n ≤ 8160) : ∀ (d i fuel : Nat), i + d = many13 n → d < fuel →
  L291_0 c222 N q fuel (nI k) (nI s) (n : Int) (32 * i) (nI (pcz k s n i)) (i : Int) (nI (odz k s n i)) = q (n : Int) (32 * many13 n) ((many13 n : Nat) : Int) (nI (odz k s n (many13 n))) := by
 have hP : many13 n ≤ 255 := by unfold many13; omega
 intro d
 induction d with
 | zero =>
  intro i fuel hd hf
  obtain ⟨m, rfl⟩ : ∃ m, fuel = m + 1 := ⟨fuel - 1, by omega⟩
  obtain rfl : i = many13 n := by omega
  have hle : n ≤ 32 * many13 n := by unfold many13; omega
  simp only [L291_0, show ¬ (((32 * many13 n : Nat) : Int) < (n : Int)) by omega, decide_false, cond_false]
 | succ d ih =>
  intro i fuel hd hf
  obtain ⟨m, rfl⟩ : ∃ m, fuel = m + 1 := ⟨fuel - 1, by omega⟩
  have hlt : 32 * i < n := by unfold many13 at hd; omega
  have hF := F (pcz k s n i ++ (s ++ (le2 n ++ [(i + 1) % 256]))) (bel_app (pcz_bel _ _ _ _) (bel_app hs (bel_app (le2_bel n) (fun x hx => by simp at hx; omega)))) (by have := pcz_len k s n i; simp [le2]; omega)
  rw [show hm k (pcz k s n i ++ (s ++ (le2 n ++ [(i + 1) % 256]))) = pcz k s n (i + 1) from rfl] at hF
  have e : (nI (pcz k s n i) ++ nI s) ++ [IntKind.wrap .u8 (irem (n : Int) 256), IntKind.wrap .u8 (iquo .i64 (n : Int) 256), IntKind.wrap .u8 (iadd .i64 (i : Int) 1)] = nI (pcz k s n i ++ (s ++ (le2 n ++ [(i + 1) % 256]))) := by
   rw [show irem (n : Int) 256 = ((n % 256 : Nat) : Int) from irem_n n 256, iquo256 (by omega), up1 (by omega), w8, w8, w8, Nat.mod_mod]
   simp [nI, le2]
  have hl := pcz_len k s n i
  have hlen : (pcz k s n i ++ (s ++ (le2 n ++ [(i + 1) % 256]))).length = (pcz k s n i).length + s.length + 3 := by simp [le2]; omega
  have hw := pcz_len' k s n i
  have ht : List.take ((pcz k s n i).length + s.length + 3) (List.drop 0 (nI (pcz k s n i ++ (s ++ (le2 n ++ [(i + 1) % 256]))))) = nI (pcz k s n i ++ (s ++ (le2 n ++ [(i + 1) % 256]))) := by
   rw [List.drop_zero, List.take_of_length_le (by rw [nI_len, hlen]; exact Nat.le_refl _)]
  simp only [L291_0, show (((32 * i : Nat) : Int) < (n : Int)) by omega, decide_true, cond_true, e, nI_len, hlen, ht, hF]
  simp only [row32' hw, t32 hw]
  simp only [nI_len, hw, odz_len, List.length_append, Nat.mul_one, Nat.zero_add, beq_self_eq_true, Nat.le_refl, decide_true, cond_true, Bool.and_self, Bool.true_and, nI_app, show (pcz k s n i).length ≤ 1099511627776 by omega, show (pcz k s n i).length + s.length ≤ 1099511627776 by omega, show (pcz k s n i).length + s.length + 3 ≤ 1099511627776 by omega, show 32 * i + 32 ≤ 1099511627776 by omega]
  rw [up1 (by omega)]
  exact ih (i + 1) m (by omega) (by omega)
theorem p291_is {N : Nat} (hN : 300 < N) {k s : List Nat} {n : Nat} (F : ∀ m, bel 256 m → m.length ≤ 5000 → c222 (nI k) (nI m) = some (nI (hm k m))) (hs : bel 256 s) (hsl : s.length ≤ 2000) (h1 : 1 ≤ n) (h2 : n ≤ 8160) : p291 c222 N (nI k) (nI s) (n : Int) = some (nI (drv k s n), (((many13 n : Nat) : Int), 0)) := by
 unfold p291
 rw [show decide ((n : Int) < 1) = false from decide_eq_false (by omega), show decide ((n : Int) > 8160) = false from decide_eq_false (by omega), cond_false, cond_false]
 have hm : many13 n ≤ 255 := by unfold many13; omega
 refine (L291_is N _ k s n F hs hsl h1 h2 (many13 n) 0 N (by omega) (by omega)).trans ?_
 have hle : n ≤ 32 * many13 n := by unfold many13; omega
 simp only [show (0 : Int) ≤ (n : Int) by omega, show (n : Int) ≤ ((32 * many13 n : Nat) : Int) by omega, decide_true, Bool.and_self, cond_true, Int.toNat_natCast, nI_len, odz_len, Nat.zero_add, Nat.mul_one, hle, List.drop_zero, nI_take]
 rfl
end
def h291 (a b : List Int) (z : Int) := p291 h222 400 a b z
theorem E291 : EntOK FT XT 291 (en291 h291) := ok291 h222 E222 fun _ _ _ _ h => ⟨400, h⟩
theorem h291_in {k s : List Nat} {n : Nat} (hk : bel 256 k) (hkl : k.length ≤ 6000) (hs : bel 256 s) (hsl : s.length ≤ 2000) (h1 : 1 ≤ n) (h2 : n ≤ 8160) : h291 (nI k) (nI s) (n : Int) = some (nI (drv k s n), (((many13 n : Nat) : Int), 0)) :=
 p291_is (by omega) (fun m h1 h2 => h222_is hk hkl h1 h2) hs hsl h1 h2
def sd13 : List Nat := [83, 83, 84, 80, 32, 105, 110, 110, 101, 114, 32, 109, 101, 116, 104, 111, 100, 32, 100, 101, 114, 105, 118, 101, 100, 32, 67, 77, 75]
theorem sd13_bel : bel 256 sd13 := by unfold sd13; intro x hx; simp at hx; omega
def bnd13 (u : List Nat) : List Nat := drv u sd13 32
theorem bnd13_len (u : List Nat) : (bnd13 u).length = 32 := drv_len _ _ _
theorem bnd13_bel (u : List Nat) : bel 256 (bnd13 u) := drv_bel _ _ _
section
variable {c290 : List Int → List Int → Int → Option ((List Int) × Int)} {c291 : List Int → List Int → Int → Option ((List Int) × Int × Int)} {c223 : List Int → List (List Int) → Option (List Int)} {c226 : List Int → List Int → List (List Int) → Option Bool}
theorem p293_is {u : List Nat} (hu : u.length = 32) (F : c290 (nI u) (nI sd13) 32 = some (nI (bnd13 u), 0)) : p293 c290 0 (nI u) = some (nI (bnd13 u)) := by
 have hb := bnd13_len u
 unfold p293
 rw [show ([83, 83, 84, 80, 32, 105, 110, 110, 101, 114, 32, 109, 101, 116, 104, 111, 100, 32, 100, 101, 114, 105, 118, 101, 100, 32, 67, 77, 75] : List Int) = nI sd13 from rfl]
 simp only [t32 hu, F, t32 hb, row32 hb]
 simp only [nI_len, hu, hb, Nat.le_refl, decide_true, cond_true, beq_self_eq_true, Nat.zero_add]
theorem L294_is (N : Nat) (q : List Int → List Int → Option (List Int)) (l : List Nat) (hl : l.length = 32) (z : List Int) : ∀ (d i fuel : Nat), i + d = 32 → d < fuel →
  L294_0 c291 N q fuel (nI l) (i : Int) z (nI (l.take i ++ List.replicate (32 - i) 0)) = q z (nI l) := by
 intro d
 induction d with
 | zero =>
  intro i fuel hd hf
  obtain ⟨m, rfl⟩ : ∃ m, fuel = m + 1 := ⟨fuel - 1, by omega⟩
  obtain rfl : i = 32 := by omega
  simp only [L294_0, show ¬ (((32 : Nat) : Int) < 32) by omega, decide_false, cond_false]
  rw [List.take_of_length_le (by omega), Nat.sub_self, List.replicate_zero, List.append_nil]
 | succ d ih =>
  intro i fuel hd hf
  obtain ⟨m, rfl⟩ : ∃ m, fuel = m + 1 := ⟨fuel - 1, by omega⟩
  have hi : i < l.length := by omega
  have hs : (nI (l.take i ++ List.replicate (32 - i) 0)).set i ((gt l i : Nat) : Int) = nI (l.take (i + 1) ++ List.replicate (32 - (i + 1)) 0) := by
   rw [nI_set, List.set_append_right _ _ (by rw [List.length_take]; omega), List.length_take, Nat.min_eq_left (by omega), Nat.sub_self]
   have e : List.replicate (32 - i) 0 = 0 :: List.replicate (32 - (i + 1)) 0 := by rw [show 32 - i = (32 - (i + 1)) + 1 by omega, List.replicate_succ]
   rw [e, List.set_cons_zero, List.take_add_one, List.getElem?_eq_getElem hi, gt_el hi]
   simp
  simp only [L294_0, show ((i : Int) < 32) by omega, show (0 : Int) ≤ (i : Int) by omega, decide_true, cond_true, geti_nat, getn hi, Bool.and_self, Int.toNat_natCast, Nat.mul_one, Nat.zero_add, hs]
  simp only [nI_len, List.length_append, List.length_take, List.length_replicate, show i < min i l.length + (32 - i) by omega, decide_true, cond_true, up1 (show i < 2 ^ 62 by omega)]
  exact ih (i + 1) m (by omega) (by omega)
theorem p294_is {N : Nat} (hN : 40 < N) {u : List Nat} {q : Int} (hu : u.length = 32) (F : c291 (nI u) (nI sd13) 32 = some (nI (bnd13 u), (q, 0))) : p294 c291 N (nI u) = some (nI (bnd13 u)) := by
 have hb := bnd13_len u
 unfold p294
 rw [show ([83, 83, 84, 80, 32, 105, 110, 110, 101, 114, 32, 109, 101, 116, 104, 111, 100, 32, 100, 101, 114, 105, 118, 101, 100, 32, 67, 77, 75] : List Int) = nI sd13 from rfl]
 simp only [t32 hu, F]
 rw [nI_len, hu]
 simp only [Nat.le_refl, decide_true, cond_true]
 refine (L294_is N _ (bnd13 u) hb _ 32 0 N (by omega) (by omega)).trans ?_
 have e : ((List.take 0 ([(0 : Int), 0, 0, 0, 0, 0, 0, 0, 0, 0, 0, 0, 0, 0, 0, 0, 0, 0, 0, 0, 0, 0, 0, 0, 0, 0, 0, 0, 0, 0, 0, 0] : List Int)) ++ nI (bnd13 u)) ++ List.drop (0 + (nI (bnd13 u)).length) ([(0 : Int), 0, 0, 0, 0, 0, 0, 0, 0, 0, 0, 0, 0, 0, 0, 0, 0, 0, 0, 0, 0, 0, 0, 0, 0, 0, 0, 0, 0, 0, 0, 0] : List Int) = nI (bnd13 u) := row32 hb
 simp only [t32 hb, e]
 simp only [nI_len, hb, Nat.le_refl, decide_true, cond_true, beq_self_eq_true, Nat.zero_add]
 rfl
theorem p295_is {k m : List Nat} (hk : k.length = 32) (F : c223 (nI k) [nI m] = some (nI (hm k m))) : p295 c223 0 (nI k) (nI m) = some (nI (hm k m)) := by
 have hb := hm_len k m
 unfold p295
 simp only [t32 hk, F, row32 hb, t32 hb]
 simp only [nI_len, hk, hb, Nat.le_refl, decide_true, cond_true, beq_self_eq_true, Nat.zero_add]
end
def h293 (u : List Int) := p293 h290 0 u
theorem E293 : EntOK FT XT 293 (en293 h293) := ok293 h290 E290 fun _ _ h => ⟨0, h⟩
theorem h293_is {u : List Nat} (hu : u.length = 32) (hb : bel 256 u) : h293 (nI u) = some (nI (bnd13 u)) :=
 p293_is hu (h290_in (n := 32) hb (by omega) sd13_bel (by decide) (by omega) (by omega))
def h294 (u : List Int) := p294 h291 50 u
theorem E294 : EntOK FT XT 294 (en294 h294) := ok294 h291 E291 fun _ _ h => ⟨50, h⟩
theorem h294_is {u : List Nat} (hu : u.length = 32) (hb : bel 256 u) : h294 (nI u) = some (nI (bnd13 u)) :=
 p294_is (by omega) hu (h291_in (n := 32) hb (by omega) sd13_bel (by decide) (by omega) (by omega))
def h295 (k m : List Int) := p295 h223 0 k m
theorem E295 : EntOK FT XT 295 (en295 h295) := ok295 h223 E223 fun _ _ _ h => ⟨0, h⟩
theorem h295_is {k m : List Nat} (hk : k.length = 32) (hb : bel 256 k) (hm1 : bel 256 m) (hml : m.length ≤ 5000) : h295 (nI k) (nI m) = some (nI (hm k m)) :=
 p295_is hk (h223_is hb (by omega) hm1 hml (by simp) (by simp))
def z32 : List Nat := List.replicate 32 0
theorem z32_bel : bel 256 z32 := bel_rep (by omega)
section
variable {c289 : Option Bool} {c290 : List Int → List Int → Int → Option ((List Int) × Int)} {c291 : List Int → List Int → Int → Option ((List Int) × Int × Int)} {c23 : List Int → List Int → Option Bool} {c292 : List Int → List Int → Int → Option Int} {c293 c294 : List Int → Option (List Int)} {c222 c295 : List Int → List Int → Option (List Int)} {c296 : List Int → List Int → List Int → Option Bool}
end
end Go.Proofs.YtciafmcbccgggaaE
