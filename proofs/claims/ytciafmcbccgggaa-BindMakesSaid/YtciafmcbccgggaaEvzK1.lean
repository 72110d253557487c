/- SHA-256: the words, the rounds. -/
import Derived.Test.YtciafmcbccgggaaEvzQ3
namespace Go.Proofs.YtciafmcbccgggaaE
open Go
set_option linter.unusedSimpArgs false
set_option linter.unusedVariables false
structure S8 where
 a : Nat
 b : Nat
 c : Nat
 d : Nat
 e : Nat
 f : Nat
 g : Nat
 h : Nat
def S8.l (s : S8) : List Nat := [s.a, s.b, s.c, s.d, s.e, s.f, s.g, s.h]
structure S8.ok (s : S8) : Prop where
 a : s.a < 4294967296
 b : s.b < 4294967296
 c : s.c < 4294967296
 d : s.d < 4294967296
 e : s.e < 4294967296
 f : s.f < 4294967296
 g : s.g < 4294967296
 h : s.h < 4294967296
theorem nI8 (s : S8) : nI s.l = [((s.a : Nat) : Int), ((s.b : Nat) : Int), ((s.c : Nat) : Int), ((s.d : Nat) : Int), ((s.e : Nat) : Int), ((s.f : Nat) : Int), ((s.g : Nat) : Int), ((s.h : Nat) : Int)] := rfl
theorem take0 {α : Type} (l : List α) : List.take 0 l = [] := rfl
def s2sm (x p q r : Nat) : Nat := (rotl x p ^^^ rotl x q) ^^^ (x / 2 ^ r)
def s2gr (x p q r : Nat) : Nat := (rotl x p ^^^ rotl x q) ^^^ rotl x r
theorem rot_of {x n : Nat} {m : Int} (hx : x < 4294967296) (hn : n < 32) (e : iand .u64 (IntKind.wrap .u64 m) 31 = (n : Int)) : h195 (x : Int) m = some ((rotl x n : Nat) : Int) := by
 unfold h195 p195
 rw [e]
 have e2 : isub .u64 32 (n : Int) = ((32 - n : Nat) : Int) := by
  unfold isub
  rw [wrap_u .u64 rfl (by omega) (by
   have : (32 : Int) - n < 18446744073709551616 := by omega
   exact this)]
  omega
 rw [e2]
 simp only [show ¬ ((n : Int) < 0) by omega, decide_false, cond_false, show ¬ (((32 - n : Nat) : Int) < 0) by omega]
 rw [rotl_of hx (by omega)]
def h238 (l : List Int) (x : Int) := p238 h195 0 l x
theorem E238 : EntOK FT XT 238 (en238 h238) := ok238 h195 E195 fun _ _ _ h => ⟨0, h⟩
def h239 (l : List Int) (x : Int) := p239 h195 0 l x
theorem E239 : EntOK FT XT 239 (en239 h239) := ok239 h195 E195 fun _ _ _ h => ⟨0, h⟩
theorem h238_of {x p q r : Nat} {a b c : Int} (hx : x < 4294967296) (hp : p < 32) (hq : q < 32) (hr : r ≤ 32) (e1 : iand .u64 (IntKind.wrap .u64 (isub .i64 0 a)) 31 = (p : Int)) (e2 : iand .u64 (IntKind.wrap .u64 (isub .i64 0 b)) 31 = (q : Int)) (e3 : c = (r : Int)) :
  h238 [a, b, c] (x : Int) = some ((s2sm x p q r : Nat) : Int) := by
 unfold h238 p238
 subst e3
 simp only [List.getElem?_cons_zero, List.getElem?_cons_succ, rot_of hx hp e1, rot_of hx hq e2, show ¬ ((r : Int) < 0) by omega, decide_false, cond_false]
 rw [xor32 (rotl_lt hx) (rotl_lt hx), shr32n hr, xor32 (lt_xor (rotl_lt hx) (rotl_lt hx)) (div_lt32 hx)]
 rfl
theorem h239_of {x p q r : Nat} {a b c : Int} (hx : x < 4294967296) (hp : p < 32) (hq : q < 32) (hr : r < 32) (e1 : iand .u64 (IntKind.wrap .u64 (isub .i64 0 a)) 31 = (p : Int)) (e2 : iand .u64 (IntKind.wrap .u64 (isub .i64 0 b)) 31 = (q : Int)) (e3 : iand .u64 (IntKind.wrap .u64 (isub .i64 0 c)) 31 = (r : Int)) :
  h239 [a, b, c] (x : Int) = some ((s2gr x p q r : Nat) : Int) := by
 unfold h239 p239
 simp only [List.getElem?_cons_zero, List.getElem?_cons_succ, rot_of hx hp e1, rot_of hx hq e2, rot_of hx hr e3]
 rw [xor32 (rotl_lt hx) (rotl_lt hx), xor32 (lt_xor (rotl_lt hx) (rotl_lt hx)) (rotl_lt hx)]
 rfl
theorem sm1 {x : Nat} (hx : x < 4294967296) : h238 [7, 18, 3] (x : Int) = some ((s2sm x 25 14 3 : Nat) : Int) := h238_of hx (by omega) (by omega) (by omega) (by kernel_rfl) (by kernel_rfl) rfl
theorem sm2 {x : Nat} (hx : x < 4294967296) : h238 [17, 19, 10] (x : Int) = some ((s2sm x 15 13 10 : Nat) : Int) := h238_of hx (by omega) (by omega) (by omega) (by kernel_rfl) (by kernel_rfl) rfl
theorem gr1' {x : Nat} (hx : x < 4294967296) : h239 [6, 11, 25] (x : Int) = some ((s2gr x 26 21 7 : Nat) : Int) := h239_of hx (by omega) (by omega) (by omega) (by kernel_rfl) (by kernel_rfl) (by kernel_rfl)
theorem gr2' {x : Nat} (hx : x < 4294967296) : h239 [2, 13, 22] (x : Int) = some ((s2gr x 30 19 10 : Nat) : Int) := h239_of hx (by omega) (by omega) (by omega) (by kernel_rfl) (by kernel_rfl) (by kernel_rfl)
def h237 (x n : Int) := p237 0 x n
theorem E237 : EntOK FT XT 237 (en237 h237) := ok237 fun _ _ _ h => ⟨0, h⟩
theorem h237_is {x n : Nat} (hx : x < 4294967296) (hn : n ≤ 32) : h237 (x : Int) (n : Int) = some ((rotl x (32 - n) : Nat) : Int) := by
 unfold h237 p237
 have e : isub .i64 32 (n : Int) = ((32 - n : Nat) : Int) := subn (a := 32) (by omega) (by omega)
 rw [e]
 simp only [show ¬ ((n : Int) < 0) by omega, decide_false, cond_false, show ¬ (((32 - n : Nat) : Int) < 0) by omega]
 rw [shr32n (by omega), shl32 (by omega), or32 (div_lt32 hx) (mod32 _), Nat.or_comm]
 unfold rotl
 rw [show 32 - (32 - n) = n by omega]
def h230 (x p q r : Int) := p230 h237 0 x p q r
theorem E230 : EntOK FT XT 230 (en230 h230) := ok230 h237 E237 fun _ _ _ _ _ h => ⟨0, h⟩
def h232 (x p q r : Int) := p232 h237 0 x p q r
theorem E232 : EntOK FT XT 232 (en232 h232) := ok232 h237 E237 fun _ _ _ _ _ h => ⟨0, h⟩
theorem h230_is {x p q r : Nat} (hx : x < 4294967296) (hp : p ≤ 32) (hq : q ≤ 32) (hr : r ≤ 32) : h230 (x : Int) (p : Int) (q : Int) (r : Int) = some ((s2sm x (32 - p) (32 - q) r : Nat) : Int) := by
 unfold h230 p230
 simp only [h237_is hx hp, h237_is hx hq, show ¬ ((r : Int) < 0) by omega, decide_false, cond_false]
 rw [xor32 (rotl_lt hx) (rotl_lt hx), shr32n hr, xor32 (lt_xor (rotl_lt hx) (rotl_lt hx)) (div_lt32 hx)]
 rfl
theorem h232_is {x p q r : Nat} (hx : x < 4294967296) (hp : p ≤ 32) (hq : q ≤ 32) (hr : r ≤ 32) : h232 (x : Int) (p : Int) (q : Int) (r : Int) = some ((s2gr x (32 - p) (32 - q) (32 - r) : Nat) : Int) := by
 unfold h232 p232
 simp only [h237_is hx hp, h237_is hx hq, h237_is hx hr]
 rw [xor32 (rotl_lt hx) (rotl_lt hx), xor32 (lt_xor (rotl_lt hx) (rotl_lt hx)) (rotl_lt hx)]
 rfl
theorem rsm1 {x : Nat} (hx : x < 4294967296) : h230 (x : Int) 7 18 3 = some ((s2sm x 25 14 3 : Nat) : Int) := h230_is (p := 7) (q := 18) (r := 3) hx (by omega) (by omega) (by omega)
theorem rsm2 {x : Nat} (hx : x < 4294967296) : h230 (x : Int) 17 19 10 = some ((s2sm x 15 13 10 : Nat) : Int) := h230_is (p := 17) (q := 19) (r := 10) hx (by omega) (by omega) (by omega)
theorem rgr1 {x : Nat} (hx : x < 4294967296) : h232 (x : Int) 6 11 25 = some ((s2gr x 26 21 7 : Nat) : Int) := h232_is (p := 6) (q := 11) (r := 25) hx (by omega) (by omega) (by omega)
theorem rgr2 {x : Nat} (hx : x < 4294967296) : h232 (x : Int) 2 13 22 = some ((s2gr x 30 19 10 : Nat) : Int) := h232_is (p := 2) (q := 13) (r := 22) hx (by omega) (by omega) (by omega)
def s2x (s : S8) (kw : Nat) : Nat := (((s.h + s2gr s.e 26 21 7) % 4294967296 + ch s.e s.f s.g) % 4294967296 + kw) % 4294967296
def s2y (s : S8) : Nat := (s2gr s.a 30 19 10 + maj s.a s.b s.c) % 4294967296
def s2step1 (s : S8) (kw : Nat) : S8 := ⟨(s2x s kw + s2y s) % 4294967296, s.a, s.b, s.c, (s.d + s2x s kw) % 4294967296, s.e, s.f, s.g⟩
theorem s2step1_ok {s : S8} (kw : Nat) (h : s.ok) : (s2step1 s kw).ok := ⟨mod32 _, h.a, h.b, h.c, mod32 _, h.e, h.f, h.g⟩
def h236 (s : List Int) (x : Int) := p236 h239 0 s x
theorem E236 : EntOK FT XT 236 (en236 h236) := ok236 h239 E239 fun _ _ _ h => ⟨0, h⟩
theorem h236_is {s : S8} (hs : s.ok) (kw : Nat) : h236 (nI s.l) (kw : Int) = some (nI (s2step1 s kw).l) := by
 unfold h236 p236
 rw [nI8]
 simp only [List.getElem?_cons_zero, List.getElem?_cons_succ, gr1' hs.e, gr2' hs.a]
 rw [xor32 hs.f hs.g, and32 hs.e (lt_xor hs.f hs.g), xor32 hs.g (lt_and hs.e), and32 hs.a hs.b, or32 hs.a hs.b, and32 hs.c (lt_or hs.a hs.b), or32 (lt_and hs.a) (lt_and hs.c)]
 simp only [add32]
 rfl
def be32 (B : List Nat) (j : Nat) : Nat := gt B j * 16777216 + gt B (j + 1) * 65536 + gt B (j + 2) * 256 + gt B (j + 3)
theorem be32_lt {B : List Nat} (h : bel 256 B) (j : Nat) : be32 B j < 4294967296 := by
 have h0 := bel_gt0 h (by omega) j
 have h1 := bel_gt0 h (by omega) (j + 1)
 have h2 := bel_gt0 h (by omega) (j + 2)
 have h3 := bel_gt0 h (by omega) (j + 3)
 unfold be32; omega
def s2w (B W : List Nat) (i : Nat) : Nat := if i < 16 then be32 B (4 * i) else (((gt W (i - 16) + gt W (i - 7)) % 4294967296 + s2sm (gt W (i - 15)) 25 14 3) % 4294967296 + s2sm (gt W (i - 2)) 15 13 10) % 4294967296
def s2sp (B : List Nat) : Nat → Nat → List Nat → List Nat
 | 0, _, W => W
 | d + 1, i, W => s2sp B d (i + 1) (W.set i (s2w B W i))
theorem s2w_lt {B W : List Nat} (hB : bel 256 B) (i : Nat) : s2w B W i < 4294967296 := by
 unfold s2w
 split
 ·exact be32_lt hB _
 ·exact mod32 _
theorem s2sp_len (B : List Nat) : ∀ d i W, (s2sp B d i W).length = W.length
 | 0, _, _ => rfl
 | d + 1, i, W => by rw [s2sp, s2sp_len B d, List.length_set]
section
variable {c230 : Int → Int → Int → Int → Option Int} {c231 : Option (List Int)} {c232 : Int → Int → Int → Int → Option Int} {c21 : List Int → Bool → Option (Int × Int)} {c238 : List Int → Int → Option Int} {c235 : List Int → Option (List Int)} {c236 : List Int → Int → Option (List Int)}
theorem L235_is (F1 : ∀ x : Nat, x < 4294967296 → c238 [7, 18, 3] (x : Int) = some ((s2sm x 25 14 3 : Nat) : Int)) (F2 : ∀ x : Nat, x < 4294967296 → c238 [17, 19, 10] (x : Int) = some ((s2sm x 15 13 10 : Nat) : Int))
  (Gt : ∀ a b c d : Nat, a < 256 → b < 256 → c < 256 → d < 256 → c21 [(a : Int), (b : Int), (c : Int), (d : Int)] false = some (((a * 16777216 + b * 65536 + c * 256 + d : Nat) : Int), 0))
  (N : Nat) (q : List Int → List Int → Option (List Int)) (B : List Nat) (hB : bel 256 B) (hl : B.length = 64) (v3 : List Int) :
  ∀ (d i fuel : Nat) (W : List Nat), i + d = 64 → d < fuel → bel 4294967296 W → W.length = 64 → L235_0 c21 c238 N q fuel (i : Int) (nI B) v3 (nI W) = q v3 (nI (s2sp B d i W)) := by
 intro d
 induction d with
 | zero =>
  intro i fuel W hd hf hW hl2
  obtain ⟨m, rfl⟩ : ∃ m, fuel = m + 1 := ⟨fuel - 1, by omega⟩
  obtain rfl : i = 64 := by omega
  rfl
 | succ d ih =>
  intro i fuel W hd hf hW hl2
  obtain ⟨m, rfl⟩ : ∃ m, fuel = m + 1 := ⟨fuel - 1, by omega⟩
  have key := ih (i + 1) m (W.set i (s2w B W i)) (by omega) (by omega) (bel_set hW (s2w_lt hB i)) (by rw [List.length_set]; exact hl2)
  by_cases h16 : i < 16
  ·have e4 : imul .i64 4 (i : Int) = ((4 * i : Nat) : Int) := muln (a := 4) (by omega)
   have e44 : iadd .i64 ((4 * i : Nat) : Int) 4 = ((4 * i + 4 : Nat) : Int) := addn (b := 4) (by omega)
   have hs := slice4 (B := B) (j := 4 * i) (by omega)
   have hg := Gt (gt B (4 * i)) (gt B (4 * i + 1)) (gt B (4 * i + 2)) (gt B (4 * i + 3)) (bel_gt0 hB (by omega) _) (bel_gt0 hB (by omega) _) (bel_gt0 hB (by omega) _) (bel_gt0 hB (by omega) _)
   have hw : IntKind.u32.wrap ((be32 B (4 * i) : Nat) : Int) = ((s2w B W i : Nat) : Int) := by
    rw [w32, Nat.mod_eq_of_lt (be32_lt hB _)]; unfold s2w; rw [if_pos h16]
   simp only [L235_0, show (i : Int) < 64 by omega, show (i : Int) < 16 by omega, decide_true, cond_true, nI_len, hl, Nat.le_refl, e4, e44, show (0 : Int) ≤ ((4 * i + 4 : Nat) : Int) by omega, show ((4 * i + 4 : Nat) : Int) ≤ 64 by omega, show (0 : Int) ≤ ((4 * i : Nat) : Int) by omega, Int.toNat_natCast, show ((4 * i : Nat) : Int) ≤ ((4 * i + 4 : Nat) : Int) by omega, Bool.and_self, Nat.mul_one, Nat.zero_add, show 4 * i + 4 - 4 * i = 4 by omega, show 4 * i + 4 ≤ 64 by omega, hs, hg, show (0 : Int) ≤ (i : Int) by omega, show i < W.length by omega]
   rw [show gt B (4 * i) * 16777216 + gt B (4 * i + 1) * 65536 + gt B (4 * i + 2) * 256 + gt B (4 * i + 3) = be32 B (4 * i) from rfl, hw, nI_set, up1 (by omega)]
   exact key
  ·have e3 : isub .i64 (i : Int) 16 = ((i - 16 : Nat) : Int) := subn (b := 16) (by omega) (by omega)
   have e8 : isub .i64 (i : Int) 7 = ((i - 7 : Nat) : Int) := subn (b := 7) (by omega) (by omega)
   have e14 : isub .i64 (i : Int) 15 = ((i - 15 : Nat) : Int) := subn (b := 15) (by omega) (by omega)
   have e16 : isub .i64 (i : Int) 2 = ((i - 2 : Nat) : Int) := subn (b := 2) (by omega) (by omega)
   have g3 := getn (l := W) (i := i - 16) (by omega)
   have g8 := getn (l := W) (i := i - 7) (by omega)
   have g14 := getn (l := W) (i := i - 15) (by omega)
   have g16 := getn (l := W) (i := i - 2) (by omega)
   have r1 := F1 _ (bel_gt0 hW (by omega) (i - 15))
   have r2 := F2 _ (bel_gt0 hW (by omega) (i - 2))
   have hs : (((gt W (i - 16) + gt W (i - 7)) % 4294967296 + s2sm (gt W (i - 15)) 25 14 3) % 4294967296 + s2sm (gt W (i - 2)) 15 13 10) % 4294967296 = s2w B W i := by unfold s2w; rw [if_neg h16]
   simp only [L235_0, show (i : Int) < 64 by omega, show ¬ ((i : Int) < 16) by omega, decide_true, decide_false, cond_true, cond_false, e3, e8, e14, e16, show (0 : Int) ≤ ((i - 16 : Nat) : Int) by omega, show ((i - 16 : Nat) : Int) < 64 by omega, show (0 : Int) ≤ ((i - 7 : Nat) : Int) by omega, show ((i - 7 : Nat) : Int) < 64 by omega, show (0 : Int) ≤ ((i - 15 : Nat) : Int) by omega, show ((i - 15 : Nat) : Int) < 64 by omega, show (0 : Int) ≤ ((i - 2 : Nat) : Int) by omega, show ((i - 2 : Nat) : Int) < 64 by omega, Int.toNat_natCast, Bool.and_self, Nat.mul_one, Nat.zero_add, g3, g8, g14, g16, r1, r2, show (0 : Int) ≤ (i : Int) by omega, nI_len, show i < W.length by omega, add32, hs]
   rw [nI_set, up1 (by omega)]
   exact key
theorem L216_0_is (F1 : ∀ x : Nat, x < 4294967296 → c230 (x : Int) 7 18 3 = some ((s2sm x 25 14 3 : Nat) : Int)) (F2 : ∀ x : Nat, x < 4294967296 → c230 (x : Int) 17 19 10 = some ((s2sm x 15 13 10 : Nat) : Int))
  (N : Nat) (q : List Int → List Int → List Int → Option (List Int)) (B : List Nat) (hB : bel 256 B) (hl : B.length = 64) (v2 v4 : List Int) :
  ∀ (d i fuel : Nat) (W : List Nat), i + d = 64 → d < fuel → bel 4294967296 W → W.length = 64 → L216_0 c230 c231 c232 N q fuel (i : Int) v2 (nI B) v4 (nI W) = q v2 v4 (nI (s2sp B d i W)) := by
 intro d
 induction d with
 | zero =>
  intro i fuel W hd hf hW hl2
  obtain ⟨m, rfl⟩ : ∃ m, fuel = m + 1 := ⟨fuel - 1, by omega⟩
  obtain rfl : i = 64 := by omega
  rfl
 | succ d ih =>
  intro i fuel W hd hf hW hl2
  obtain ⟨m, rfl⟩ : ∃ m, fuel = m + 1 := ⟨fuel - 1, by omega⟩
  have key := ih (i + 1) m (W.set i (s2w B W i)) (by omega) (by omega) (bel_set hW (s2w_lt hB i)) (by rw [List.length_set]; exact hl2)
  by_cases h16 : i < 16
  ·have e4 : imul .i64 4 (i : Int) = ((4 * i : Nat) : Int) := muln (a := 4) (by omega)
   have e1 : iadd .i64 ((4 * i : Nat) : Int) 1 = ((4 * i + 1 : Nat) : Int) := addn (b := 1) (by omega)
   have e2 : iadd .i64 ((4 * i : Nat) : Int) 2 = ((4 * i + 2 : Nat) : Int) := addn (b := 2) (by omega)
   have e3 : iadd .i64 ((4 * i : Nat) : Int) 3 = ((4 * i + 3 : Nat) : Int) := addn (b := 3) (by omega)
   have g0 := getn (l := B) (i := 4 * i) (by omega)
   have g1 := getn (l := B) (i := 4 * i + 1) (by omega)
   have g2 := getn (l := B) (i := 4 * i + 2) (by omega)
   have g3 := getn (l := B) (i := 4 * i + 3) (by omega)
   have b0 := bel_gt0 hB (by omega) (4 * i)
   have b1 := bel_gt0 hB (by omega) (4 * i + 1)
   have b2 := bel_gt0 hB (by omega) (4 * i + 2)
   have b3 := bel_gt0 hB (by omega) (4 * i + 3)
   have hm0 : imul .u32 ((gt B (4 * i) % 4294967296 : Nat) : Int) 16777216 = ((gt B (4 * i) * 16777216 : Nat) : Int) := by rw [show (16777216 : Int) = ((16777216 : Nat) : Int) from rfl, mul32]; congr 1; omega
   have hm1 : imul .u32 ((gt B (4 * i + 1) % 4294967296 : Nat) : Int) 65536 = ((gt B (4 * i + 1) * 65536 : Nat) : Int) := by rw [show (65536 : Int) = ((65536 : Nat) : Int) from rfl, mul32]; congr 1; omega
   have hm2 : imul .u32 ((gt B (4 * i + 2) % 4294967296 : Nat) : Int) 256 = ((gt B (4 * i + 2) * 256 : Nat) : Int) := by rw [show (256 : Int) = ((256 : Nat) : Int) from rfl, mul32]; congr 1; omega
   have hs : (((gt B (4 * i) * 16777216 + gt B (4 * i + 1) * 65536) % 4294967296 + gt B (4 * i + 2) * 256) % 4294967296 + gt B (4 * i + 3) % 4294967296) % 4294967296 = s2w B W i := by
    unfold s2w; rw [if_pos h16]; unfold be32; omega
   simp only [L216_0, show (i : Int) < 64 by omega, show (i : Int) < 16 by omega, decide_true, cond_true, e4, e1, e2, e3, show (0 : Int) ≤ ((4 * i : Nat) : Int) by omega, show ((4 * i : Nat) : Int) < 64 by omega, show (0 : Int) ≤ ((4 * i + 1 : Nat) : Int) by omega, show ((4 * i + 1 : Nat) : Int) < 64 by omega, show (0 : Int) ≤ ((4 * i + 2 : Nat) : Int) by omega, show ((4 * i + 2 : Nat) : Int) < 64 by omega, show (0 : Int) ≤ ((4 * i + 3 : Nat) : Int) by omega, show ((4 * i + 3 : Nat) : Int) < 64 by omega, Int.toNat_natCast, Bool.and_self, Nat.mul_one, Nat.zero_add, g0, g1, g2, g3, w32, hm0, hm1, hm2, add32, hs, show (0 : Int) ≤ (i : Int) by omega, nI_len, show i < W.length by omega]
   rw [nI_set, up1 (by omega)]
   exact key
  ·have e3 : isub .i64 (i : Int) 16 = ((i - 16 : Nat) : Int) := subn (b := 16) (by omega) (by omega)
   have e8 : isub .i64 (i : Int) 7 = ((i - 7 : Nat) : Int) := subn (b := 7) (by omega) (by omega)
   have e14 : isub .i64 (i : Int) 15 = ((i - 15 : Nat) : Int) := subn (b := 15) (by omega) (by omega)
   have e16 : isub .i64 (i : Int) 2 = ((i - 2 : Nat) : Int) := subn (b := 2) (by omega) (by omega)
   have g3 := getn (l := W) (i := i - 16) (by omega)
   have g8 := getn (l := W) (i := i - 7) (by omega)
   have g14 := getn (l := W) (i := i - 15) (by omega)
   have g16 := getn (l := W) (i := i - 2) (by omega)
   have r1 := F1 _ (bel_gt0 hW (by omega) (i - 15))
   have r2 := F2 _ (bel_gt0 hW (by omega) (i - 2))
   have hs : (((gt W (i - 16) + gt W (i - 7)) % 4294967296 + s2sm (gt W (i - 15)) 25 14 3) % 4294967296 + s2sm (gt W (i - 2)) 15 13 10) % 4294967296 = s2w B W i := by unfold s2w; rw [if_neg h16]
   simp only [L216_0, show (i : Int) < 64 by omega, show ¬ ((i : Int) < 16) by omega, decide_true, decide_false, cond_true, cond_false, e3, e8, e14, e16, show (0 : Int) ≤ ((i - 16 : Nat) : Int) by omega, show ((i - 16 : Nat) : Int) < 64 by omega, show (0 : Int) ≤ ((i - 7 : Nat) : Int) by omega, show ((i - 7 : Nat) : Int) < 64 by omega, show (0 : Int) ≤ ((i - 15 : Nat) : Int) by omega, show ((i - 15 : Nat) : Int) < 64 by omega, show (0 : Int) ≤ ((i - 2 : Nat) : Int) by omega, show ((i - 2 : Nat) : Int) < 64 by omega, Int.toNat_natCast, Bool.and_self, Nat.mul_one, Nat.zero_add, g3, g8, g14, g16, r1, r2, show (0 : Int) ≤ (i : Int) by omega, nI_len, show i < W.length by omega, add32, hs]
   rw [nI_set, up1 (by omega)]
   exact key
def s2st (W K : List Nat) (i : Nat) (s : S8) : S8 := s2step1 s ((gt W i + gt K i) % 4294967296)
theorem s2st_eq (W K : List Nat) (i : Nat) (s : S8) : s2step1 s ((gt W i + gt K i) % 4294967296) = s2st W K i s := by rw [s2st]
theorem s2st_ok {W K : List Nat} {i : Nat} {s : S8} (h : s.ok) : (s2st W K i s).ok := by rw [s2st]; exact s2step1_ok _ h
theorem s2st_len (W K : List Nat) (i : Nat) (s : S8) : (s2st W K i s).l.length = 8 := by rw [S8.l]; simp only [List.length_cons, List.length_nil]
/-- a step many times -/
def runs {σ : Type} (f : Nat → σ → σ) : Nat → Nat → σ → σ
 | 0, _, s => s
 | d + 1, i, s => runs f d (i + 1) (f i s)
theorem runs_zero {σ : Type} (f : Nat → σ → σ) (i : Nat) (s : σ) : runs f 0 i s = s := rfl
theorem runs_succ {σ : Type} (f : Nat → σ → σ) (d i : Nat) (s : σ) : runs f (d + 1) i s = runs f d (i + 1) (f i s) := rfl
def s2run (W K : List Nat) (d i : Nat) (s : S8) : S8 := runs (s2st W K) d i s
theorem s2run_zero (W K : List Nat) (i : Nat) (s : S8) : s2run W K 0 i s = s := by rw [s2run, runs_zero]
theorem s2run_succ (W K : List Nat) (d i : Nat) (s : S8) : s2run W K (d + 1) i s = s2run W K d (i + 1) (s2st W K i s) := by rw [s2run, runs_succ, s2run]
theorem L229_0_is (F : ∀ (s : S8) (x : Nat), s.ok → c236 (nI s.l) (x : Int) = some (nI (s2step1 s x).l)) (N : Nat) (q : List Int → List Int → List Int → Option (List Int)) (v5 v6 : List Int) (W K : List Nat) (hW : W.length = 64) (hK : K.length = 64) :
  ∀ (d i fuel : Nat) (s : S8), i + d = 64 → d < fuel → s.ok → L229_0 c235 c236 N q fuel (nI K) (nI W) (i : Int) v5 v6 (nI s.l) = q v5 v6 (nI (s2run W K d i s).l) := by
 intro d
 induction d with
 | zero =>
  intro i fuel s hd hf hs
  obtain ⟨m, rfl⟩ : ∃ m, fuel = m + 1 := ⟨fuel - 1, by omega⟩
  obtain rfl : i = 64 := by omega
  rw [s2run_zero]
  simp only [L229_0, show ¬ (((64 : Nat) : Int) < 64) by omega, decide_false, cond_false]
 | succ d ih =>
  intro i fuel s hd hf hs
  obtain ⟨m, rfl⟩ : ∃ m, fuel = m + 1 := ⟨fuel - 1, by omega⟩
  have hw := getn (l := W) (i := i) (by omega)
  have hk := getn (l := K) (i := i) (by omega)
  have h8 : List.take 8 (List.drop 0 (nI s.l)) = nI s.l := rfl
  have key := ih (i + 1) m (s2st W K i s) (by omega) (by omega) (s2st_ok hs)
  rw [s2run_succ]
  have hc := F s ((gt W i + gt K i) % 4294967296) hs
  rw [s2st_eq] at hc
  have hlen := s2st_len W K i s
  generalize s2st W K i s = s' at *
  simp only [L229_0, show (i : Int) < 64 by omega, show (0 : Int) ≤ (i : Int) by omega, decide_true, Bool.and_self, cond_true, Int.toNat_natCast, Nat.mul_one, hw, nI_len, show s.l.length = 8 from rfl, Nat.le_refl, geti_nat, hk, add32, h8, hc, hlen, beq_self_eq_true, Nat.zero_add, take0, List.nil_append]
  rw [show List.drop 8 (nI s.l) = [] from rfl, List.append_nil, up1 (by omega)]
  exact key
theorem L216_1_is (F1 : ∀ x : Nat, x < 4294967296 → c232 (x : Int) 6 11 25 = some ((s2gr x 26 21 7 : Nat) : Int)) (F2 : ∀ x : Nat, x < 4294967296 → c232 (x : Int) 2 13 22 = some ((s2gr x 30 19 10 : Nat) : Int)) (N : Nat) (q : List Int → List Int → List Int → Option (List Int)) (v5 v6 : List Int) (W K : List Nat) (hW : W.length = 64) (hK : K.length = 64) :
  ∀ (d i fuel : Nat) (s : S8), i + d = 64 → d < fuel → s.ok → L216_1 c230 c231 c232 N q fuel (nI K) (i : Int) v5 v6 (nI W) (nI s.l) = q v5 v6 (nI (s2run W K d i s).l) := by
 intro d
 induction d with
 | zero =>
  intro i fuel s hd hf hs
  obtain ⟨m, rfl⟩ : ∃ m, fuel = m + 1 := ⟨fuel - 1, by omega⟩
  obtain rfl : i = 64 := by omega
  rw [s2run_zero]
  simp only [L216_1, show ¬ (((64 : Nat) : Int) < 64) by omega, decide_false, cond_false]
 | succ d ih =>
  intro i fuel s hd hf hs
  obtain ⟨m, rfl⟩ : ∃ m, fuel = m + 1 := ⟨fuel - 1, by omega⟩
  have hw := getn (l := W) (i := i) (by omega)
  have hk := getn (l := K) (i := i) (by omega)
  have key := ih (i + 1) m (s2st W K i s) (by omega) (by omega) (s2st_ok hs)
  rw [s2run_succ]
  have hn : 4294967295 - s.e < 4294967296 := by omega
  have hst : nI (s2st W K i s).l = [(((s2x s ((gt W i + gt K i) % 4294967296) + s2y s) % 4294967296 : Nat) : Int), ((s.a : Nat) : Int), ((s.b : Nat) : Int), ((s.c : Nat) : Int), (((s.d + s2x s ((gt W i + gt K i) % 4294967296)) % 4294967296 : Nat) : Int), ((s.e : Nat) : Int), ((s.f : Nat) : Int), ((s.g : Nat) : Int)] := by rw [s2st, s2step1, nI8]
  have ey : (s2gr s.a 30 19 10 + maj s.a s.b s.c) % 4294967296 = s2y s := by rw [s2y]
  have ex : ((((s.h + s2gr s.e 26 21 7) % 4294967296 + ch s.e s.f s.g) % 4294967296 + gt K i) % 4294967296 + gt W i) % 4294967296 = s2x s ((gt W i + gt K i) % 4294967296) := by rw [s2x]; omega
  rw [nI8 s]
  simp only [L216_1, show (i : Int) < 64 by omega, show (0 : Int) ≤ (i : Int) by omega, decide_true, Bool.and_self, cond_true, List.getElem?_cons_zero, List.getElem?_cons_succ, F1 _ hs.e, F2 _ hs.a, geti_nat, hk, Int.toNat_natCast, Nat.mul_one, Nat.zero_add, hw, List.length_cons, List.length_nil, Nat.le_refl, take0, List.nil_append, List.drop_succ_cons, List.drop_zero, List.append_nil]
  rw [and32 hs.e hs.f, not32 hs.e, and32 hn hs.g, or32 (lt_and hs.e) (lt_and hn), ch_or hs.e hs.f hs.g, and32 hs.a hs.b, and32 hs.a hs.c, and32 hs.b hs.c, or32 (lt_and hs.a) (lt_and hs.a), or32 (lt_or (lt_and hs.a) (lt_and hs.a)) (lt_and hs.b), maj_or]
  simp only [add32, ex, ey]
  rw [up1 (by omega), ← hst]
  exact key
end
end Go.Proofs.YtciafmcbccgggaaE
