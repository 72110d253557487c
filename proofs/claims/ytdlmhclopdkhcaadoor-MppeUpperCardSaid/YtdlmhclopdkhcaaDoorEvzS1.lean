/- SHA-1: the program's block is the reference's. -/
import Derived.Test.YtdlmhclopdkhcaaDoorEvzQ3
namespace Go.Proofs.YtdlmhclopdkhcaaDoorE
open Go
set_option linter.unusedSimpArgs false
set_option linter.unusedVariables false
abbrev S5 := Nat × Nat × Nat × Nat × Nat
def S5.l (s : S5) : List Nat := [s.1, s.2.1, s.2.2.1, s.2.2.2.1, s.2.2.2.2]
def S5.ok (s : S5) : Prop := s.1 < 4294967296 ∧ s.2.1 < 4294967296 ∧ s.2.2.1 < 4294967296 ∧ s.2.2.2.1 < 4294967296 ∧ s.2.2.2.2 < 4294967296
def s1f (t b c d : Nat) : Nat := if t = 0 then ch b c d else if t = 2 then maj b c d else (b ^^^ c) ^^^ d
def s1K : List Nat := [1518500249, 1859775393, 2400959708, 3395469782]
def s1step (W : List Nat) (i : Nat) (s : S5) : S5 :=
 ((((((rotl s.1 5 + s1f (i / 20) s.2.1 s.2.2.1 s.2.2.2.1) % 4294967296 + s.2.2.2.2) % 4294967296 + gt s1K (i / 20)) % 4294967296 + gt W i) % 4294967296), s.1, rotl s.2.1 30, s.2.2.1, s.2.2.2.1)
def s1run (W : List Nat) : Nat → Nat → S5 → S5
 | 0, _, s => s
 | d + 1, i, s => s1run W d (i + 1) (s1step W i s)
theorem s1step_ok {W : List Nat} {i : Nat} {s : S5} (h : s.ok) : (s1step W i s).ok := ⟨mod32 _, h.1, rotl_lt h.2.1, h.2.2.1, h.2.2.2.1⟩
def h201 (t b c d : Int) := p201 0 t b c d
theorem E201 : EntOK FT XT 201 (en201 h201) := ok201 fun _ _ _ _ _ h => ⟨0, h⟩
theorem h201_is (t : Nat) {b c d : Nat} (hb : b < 4294967296) (hc : c < 4294967296) (hd : d < 4294967296) : h201 (t : Int) (b : Int) (c : Int) (d : Int) = some ((s1f t b c d : Nat) : Int) := by
 unfold h201 p201 s1f
 rw [xor32 hc hd, and32 hb (lt_xor hc hd), xor32 hd (lt_and hb), and32 hb hc, or32 hb hc, and32 hd (lt_or hb hc), or32 (lt_and hb) (lt_and hd), xor32 hb hc, xor32 (lt_xor hb hc) hd]
 by_cases h0 : t = 0
 ·subst h0; rfl
 ·rw [show (((t : Int)) == 0) = false from beq_eq_false_iff_ne.2 (by omega), if_neg h0]
  by_cases h2 : t = 2
  ·subst h2; rfl
  ·rw [show (((t : Int)) == 2) = false from beq_eq_false_iff_ne.2 (by omega), if_neg h2]; rfl
def h203 (t b c d : Int) := p203 0 t b c d
theorem E203 : EntOK FT XT 203 (en203 h203) := ok203 fun _ _ _ _ _ h => ⟨0, h⟩
theorem h203_is {i b c d : Nat} (hi : i < 80) (hb : b < 4294967296) (hc : c < 4294967296) (hd : d < 4294967296) : h203 (i : Int) (b : Int) (c : Int) (d : Int) = some (((s1f (i / 20) b c d + gt s1K (i / 20)) % 4294967296 : Nat) : Int) := by
 have hn : 4294967295 - b < 4294967296 := by omega
 unfold h203 p203
 rw [show (20 : Int) = ((20 : Nat) : Int) from rfl, quon (by omega), not32 hb, and32 hb hc, and32 hn hd, or32 (lt_and hb) (lt_and hn), ch_or hb hc hd, and32 hb hd, and32 hc hd, or32 (lt_and hb) (lt_and hb), or32 (lt_or (lt_and hb) (lt_and hb)) (lt_and hc), maj_or, xor32 hb hc, xor32 (lt_xor hb hc) hd]
 have hq : i / 20 = 0 ∨ i / 20 = 1 ∨ i / 20 = 2 ∨ i / 20 = 3 := by omega
 rcases hq with h | h | h | h
 ·rw [h]; exact congrArg some (add32 _ 1518500249)
 ·rw [h]; exact congrArg some (add32 _ 1859775393)
 ·rw [h]; exact congrArg some (add32 _ 2400959708)
 ·rw [h]; exact congrArg some (add32 _ 3395469782)
def h202 (x n : Int) := p202 0 x n
theorem E202 : EntOK FT XT 202 (en202 h202) := ok202 fun _ _ _ h => ⟨0, h⟩
theorem h202_is {x n : Nat} (hx : x < 4294967296) (hn : n < 32) : h202 (x : Int) (n : Int) = some ((rotl x n : Nat) : Int) := by
 unfold h202 p202
 have e : isub .i64 32 (n : Int) = ((32 - n : Nat) : Int) := subn (a := 32) (by omega) (by omega)
 rw [e]
 simp only [show ¬ ((n : Int) < 0) by omega, decide_false, cond_false, show ¬ (((32 - n : Nat) : Int) < 0) by omega]
 rw [rotl_of hx (by omega)]
theorem take0 {α : Type} (l : List α) : List.take 0 l = [] := rfl
theorem nI5 (s : S5) : nI s.l = [((s.1 : Nat) : Int), ((s.2.1 : Nat) : Int), ((s.2.2.1 : Nat) : Int), ((s.2.2.2.1 : Nat) : Int), ((s.2.2.2.2 : Nat) : Int)] := rfl
section
variable {c199 : List Int → Option (List Int)} {c200 : Option (List Int)} {c195 c202 : Int → Int → Option Int} {c201 c203 : Int → Int → Int → Int → Option Int}
theorem L183_is (R : ∀ x n : Nat, x < 4294967296 → n < 32 → c195 (x : Int) (n : Int) = some ((rotl x n : Nat) : Int)) (F : ∀ t b c d : Nat, b < 4294967296 → c < 4294967296 → d < 4294967296 → c201 (t : Int) (b : Int) (c : Int) (d : Int) = some ((s1f t b c d : Nat) : Int))
  (N : Nat) (q : List Int → List Int → List Int → Option (List Int)) (v4 v5 : List Int) (W : List Nat) (hW : W.length = 80) :
  ∀ (d i fuel : Nat) (s : S5), i + d = 80 → d < fuel → s.ok → L183_0 c199 c200 c195 c201 N q fuel (i : Int) v4 v5 (nI W) (nI s1K) (nI s.l) = q v4 v5 (nI (s1run W d i s).l) := by
 intro d
 induction d with
 | zero =>
  intro i fuel s hd hf hs
  obtain ⟨m, rfl⟩ : ∃ m, fuel = m + 1 := ⟨fuel - 1, by omega⟩
  obtain rfl : i = 80 := by omega
  rfl
 | succ d ih =>
  intro i fuel s hd hf hs
  obtain ⟨m, rfl⟩ : ∃ m, fuel = m + 1 := ⟨fuel - 1, by omega⟩
  have hq : i / 20 < s1K.length := by show i / 20 < 4; omega
  have e20 : iquo .i64 (i : Int) 20 = ((i / 20 : Nat) : Int) := quon (b := 20) (by omega)
  have r1 := R s.1 5 hs.1 (by omega)
  have r2 := R s.2.1 30 hs.2.1 (by omega)
  have f1 := F (i / 20) s.2.1 s.2.2.1 s.2.2.2.1 hs.2.1 hs.2.2.1 hs.2.2.2.1
  rw [show ((5 : Nat) : Int) = 5 from rfl] at r1
  rw [show ((30 : Nat) : Int) = 30 from rfl] at r2
  have hk := getn hq
  have hw := getn (l := W) (i := i) (by omega)
  have key := ih (i + 1) m (s1step W i s) (by omega) (by omega) (s1step_ok hs)
  rw [nI5 s]
  simp only [L183_0, show (i : Int) < 80 by omega, decide_true, cond_true, List.getElem?_cons_zero, List.getElem?_cons_succ, r1, r2, e20, f1, show (0 : Int) ≤ ((i / 20 : Nat) : Int) by omega, show ((i / 20 : Nat) : Int) < 4 by omega, Bool.and_self, Int.toNat_natCast, Nat.mul_one, Nat.zero_add, hk, show (0 : Int) ≤ (i : Int) by omega, hw, List.length_cons, List.length_nil, Nat.le_refl, take0, List.nil_append, List.drop_succ_cons, List.drop_zero, List.append_nil, add32]
  rw [up1 (by omega)]
  exact key
theorem L184_1_is (R : ∀ x n : Nat, x < 4294967296 → n < 32 → c202 (x : Int) (n : Int) = some ((rotl x n : Nat) : Int)) (F : ∀ i b c d : Nat, i < 80 → b < 4294967296 → c < 4294967296 → d < 4294967296 → c203 (i : Int) (b : Int) (c : Int) (d : Int) = some (((s1f (i / 20) b c d + gt s1K (i / 20)) % 4294967296 : Nat) : Int))
  (N : Nat) (q : List Int → List Int → List Int → Option (List Int)) (v4 v5 : List Int) (W : List Nat) (hW : W.length = 80) :
  ∀ (d i fuel : Nat) (s : S5), i + d = 80 → d < fuel → s.ok → L184_1 c202 c203 N q fuel (i : Int) v4 v5 (nI W) (nI s.l) = q v4 v5 (nI (s1run W d i s).l) := by
 intro d
 induction d with
 | zero =>
  intro i fuel s hd hf hs
  obtain ⟨m, rfl⟩ : ∃ m, fuel = m + 1 := ⟨fuel - 1, by omega⟩
  obtain rfl : i = 80 := by omega
  rfl
 | succ d ih =>
  intro i fuel s hd hf hs
  obtain ⟨m, rfl⟩ : ∃ m, fuel = m + 1 := ⟨fuel - 1, by omega⟩
  have r1 := R s.1 5 hs.1 (by omega)
  have r2 := R s.2.1 30 hs.2.1 (by omega)
  have f1 := F i s.2.1 s.2.2.1 s.2.2.2.1 (by omega) hs.2.1 hs.2.2.1 hs.2.2.2.1
  rw [show ((5 : Nat) : Int) = 5 from rfl] at r1
  rw [show ((30 : Nat) : Int) = 30 from rfl] at r2
  have hw := getn (l := W) (i := i) (by omega)
  have key := ih (i + 1) m (s1step W i s) (by omega) (by omega) (s1step_ok hs)
  have esum : (((rotl s.1 5 + (s1f (i / 20) s.2.1 s.2.2.1 s.2.2.2.1 + gt s1K (i / 20)) % 4294967296) % 4294967296 + s.2.2.2.2) % 4294967296 + gt W i) % 4294967296 = (s1step W i s).1 := by
   unfold s1step; simp only; omega
  rw [nI5 s]
  simp only [L184_1, show (i : Int) < 80 by omega, decide_true, cond_true, List.getElem?_cons_zero, List.getElem?_cons_succ, r1, r2, f1, Bool.and_self, Int.toNat_natCast, Nat.mul_one, Nat.zero_add, show (0 : Int) ≤ (i : Int) by omega, hw, List.length_cons, List.length_nil, Nat.le_refl, take0, List.nil_append, List.drop_succ_cons, List.drop_zero, List.append_nil, add32, esum]
  rw [up1 (by omega)]
  exact key
def be32 (B : List Nat) (j : Nat) : Nat := gt B j * 16777216 + gt B (j + 1) * 65536 + gt B (j + 2) * 256 + gt B (j + 3)
theorem be32_lt {B : List Nat} (h : bel 256 B) (j : Nat) : be32 B j < 4294967296 := by
 have h0 := bel_gt0 h (by omega) j
 have h1 := bel_gt0 h (by omega) (j + 1)
 have h2 := bel_gt0 h (by omega) (j + 2)
 have h3 := bel_gt0 h (by omega) (j + 3)
 unfold be32; omega
def s1w (B W : List Nat) (i : Nat) : Nat := if i < 16 then be32 B (4 * i) else rotl (((gt W (i - 3) ^^^ gt W (i - 8)) ^^^ gt W (i - 14)) ^^^ gt W (i - 16)) 1
def s1sp (B : List Nat) : Nat → Nat → List Nat → List Nat
 | 0, _, W => W
 | d + 1, i, W => s1sp B d (i + 1) (W.set i (s1w B W i))
theorem s1w_lt {B W : List Nat} (hB : bel 256 B) (hW : bel 4294967296 W) (i : Nat) : s1w B W i < 4294967296 := by
 unfold s1w
 split
 ·exact be32_lt hB _
 ·exact rotl_lt (lt_xor (lt_xor (lt_xor (bel_gt0 hW (by omega) _) (bel_gt0 hW (by omega) _)) (bel_gt0 hW (by omega) _)) (bel_gt0 hW (by omega) _))
theorem s1sp_len (B : List Nat) : ∀ d i W, (s1sp B d i W).length = W.length
 | 0, _, _ => rfl
 | d + 1, i, W => by rw [s1sp, s1sp_len B d, List.length_set]
theorem L199_is {c21 : List Int → Bool → Option (Int × Int)} (R : ∀ x n : Nat, x < 4294967296 → n < 32 → c195 (x : Int) (n : Int) = some ((rotl x n : Nat) : Int))
  (Gt : ∀ a b c d : Nat, a < 256 → b < 256 → c < 256 → d < 256 → c21 [(a : Int), (b : Int), (c : Int), (d : Int)] false = some (((a * 16777216 + b * 65536 + c * 256 + d : Nat) : Int), 0))
  (N : Nat) (q : List Int → List Int → Option (List Int)) (B : List Nat) (hB : bel 256 B) (hl : B.length = 64) (v3 : List Int) :
  ∀ (d i fuel : Nat) (W : List Nat), i + d = 80 → d < fuel → bel 4294967296 W → W.length = 80 → L199_0 c21 c195 N q fuel (i : Int) (nI B) v3 (nI W) = q v3 (nI (s1sp B d i W)) := by
 intro d
 induction d with
 | zero =>
  intro i fuel W hd hf hW hl2
  obtain ⟨m, rfl⟩ : ∃ m, fuel = m + 1 := ⟨fuel - 1, by omega⟩
  obtain rfl : i = 80 := by omega
  rfl
 | succ d ih =>
  intro i fuel W hd hf hW hl2
  obtain ⟨m, rfl⟩ : ∃ m, fuel = m + 1 := ⟨fuel - 1, by omega⟩
  have key := ih (i + 1) m (W.set i (s1w B W i)) (by omega) (by omega) (bel_set hW (s1w_lt hB hW i)) (by rw [List.length_set]; exact hl2)
  by_cases h16 : i < 16
  ·have e4 : imul .i64 4 (i : Int) = ((4 * i : Nat) : Int) := muln (a := 4) (by omega)
   have e44 : iadd .i64 ((4 * i : Nat) : Int) 4 = ((4 * i + 4 : Nat) : Int) := addn (b := 4) (by omega)
   have hs := slice4 (B := B) (j := 4 * i) (by omega)
   have hg := Gt (gt B (4 * i)) (gt B (4 * i + 1)) (gt B (4 * i + 2)) (gt B (4 * i + 3)) (bel_gt0 hB (by omega) _) (bel_gt0 hB (by omega) _) (bel_gt0 hB (by omega) _) (bel_gt0 hB (by omega) _)
   have hw : IntKind.u32.wrap ((be32 B (4 * i) : Nat) : Int) = ((s1w B W i : Nat) : Int) := by
    rw [w32, Nat.mod_eq_of_lt (be32_lt hB _)]; unfold s1w; rw [if_pos h16]
   simp only [L199_0, show (i : Int) < 80 by omega, show (i : Int) < 16 by omega, decide_true, cond_true, nI_len, hl, Nat.le_refl, e4, e44, show (0 : Int) ≤ ((4 * i + 4 : Nat) : Int) by omega, show ((4 * i + 4 : Nat) : Int) ≤ 64 by omega, show (0 : Int) ≤ ((4 * i : Nat) : Int) by omega, Int.toNat_natCast, show ((4 * i : Nat) : Int) ≤ ((4 * i + 4 : Nat) : Int) by omega, Bool.and_self, Nat.mul_one, Nat.zero_add, show 4 * i + 4 - 4 * i = 4 by omega, show 4 * i + 4 ≤ 64 by omega, hs, hg, show (0 : Int) ≤ (i : Int) by omega, show i < W.length by omega]
   rw [show gt B (4 * i) * 16777216 + gt B (4 * i + 1) * 65536 + gt B (4 * i + 2) * 256 + gt B (4 * i + 3) = be32 B (4 * i) from rfl, hw, nI_set, up1 (by omega)]
   exact key
  ·have e3 : isub .i64 (i : Int) 3 = ((i - 3 : Nat) : Int) := subn (b := 3) (by omega) (by omega)
   have e8 : isub .i64 (i : Int) 8 = ((i - 8 : Nat) : Int) := subn (b := 8) (by omega) (by omega)
   have e14 : isub .i64 (i : Int) 14 = ((i - 14 : Nat) : Int) := subn (b := 14) (by omega) (by omega)
   have e16 : isub .i64 (i : Int) 16 = ((i - 16 : Nat) : Int) := subn (b := 16) (by omega) (by omega)
   have g3 := getn (l := W) (i := i - 3) (by omega)
   have g8 := getn (l := W) (i := i - 8) (by omega)
   have g14 := getn (l := W) (i := i - 14) (by omega)
   have g16 := getn (l := W) (i := i - 16) (by omega)
   have b3 := bel_gt0 hW (by omega) (i - 3)
   have b8 := bel_gt0 hW (by omega) (i - 8)
   have b14 := bel_gt0 hW (by omega) (i - 14)
   have b16 := bel_gt0 hW (by omega) (i - 16)
   have r := R (((gt W (i - 3) ^^^ gt W (i - 8)) ^^^ gt W (i - 14)) ^^^ gt W (i - 16)) 1 (lt_xor (lt_xor (lt_xor b3 b8) b14) b16) (by omega)
   rw [show ((1 : Nat) : Int) = 1 from rfl, show rotl (((gt W (i - 3) ^^^ gt W (i - 8)) ^^^ gt W (i - 14)) ^^^ gt W (i - 16)) 1 = s1w B W i by unfold s1w; rw [if_neg h16]] at r
   simp only [L199_0, show (i : Int) < 80 by omega, show ¬ ((i : Int) < 16) by omega, decide_true, decide_false, cond_true, cond_false, e3, e8, e14, e16, show (0 : Int) ≤ ((i - 3 : Nat) : Int) by omega, show ((i - 3 : Nat) : Int) < 80 by omega, show (0 : Int) ≤ ((i - 8 : Nat) : Int) by omega, show ((i - 8 : Nat) : Int) < 80 by omega, show (0 : Int) ≤ ((i - 14 : Nat) : Int) by omega, show ((i - 14 : Nat) : Int) < 80 by omega, show (0 : Int) ≤ ((i - 16 : Nat) : Int) by omega, show ((i - 16 : Nat) : Int) < 80 by omega, Int.toNat_natCast, Bool.and_self, Nat.mul_one, Nat.zero_add, g3, g8, g14, g16, show (0 : Int) ≤ (i : Int) by omega, nI_len, show i < W.length by omega]
   rw [xor32 b3 b8, xor32 (lt_xor b3 b8) b14, xor32 (lt_xor (lt_xor b3 b8) b14) b16, r]
   simp only
   rw [nI_set, up1 (by omega)]
   exact key
theorem L184_0_is (R : ∀ x n : Nat, x < 4294967296 → n < 32 → c202 (x : Int) (n : Int) = some ((rotl x n : Nat) : Int))
  (N : Nat) (q : List Int → List Int → List Int → Option (List Int)) (B : List Nat) (hB : bel 256 B) (hl : B.length = 64) (v2 v4 : List Int) :
  ∀ (d i fuel : Nat) (W : List Nat), i + d = 80 → d < fuel → bel 4294967296 W → W.length = 80 → L184_0 c202 c203 N q fuel (i : Int) v2 (nI B) v4 (nI W) = q v2 v4 (nI (s1sp B d i W)) := by
 intro d
 induction d with
 | zero =>
  intro i fuel W hd hf hW hl2
  obtain ⟨m, rfl⟩ : ∃ m, fuel = m + 1 := ⟨fuel - 1, by omega⟩
  obtain rfl : i = 80 := by omega
  rfl
 | succ d ih =>
  intro i fuel W hd hf hW hl2
  obtain ⟨m, rfl⟩ : ∃ m, fuel = m + 1 := ⟨fuel - 1, by omega⟩
  have key := ih (i + 1) m (W.set i (s1w B W i)) (by omega) (by omega) (bel_set hW (s1w_lt hB hW i)) (by rw [List.length_set]; exact hl2)
  by_cases h16 : i < 16
  ·have e4 : imul .i64 4 (i : Int) = ((4 * i : Nat) : Int) := muln (a := 4) (by omega)
   have e1 : iadd .i64 ((4 * i : Nat) : Int) 1 = ((4 * i + 1 : Nat) : Int) := addn (b := 1) (by omega)
   have e2 : iadd .i64 ((4 * i : Nat) : Int) 2 = ((4 * i + 2 : Nat) : Int) := addn (b := 2) (by omega)
   have e3 : iadd .i64 ((4 * i : Nat) : Int) 3 = ((4 * i + 3 : Nat) : Int) := addn (b := 3) (by omega)
   have g0 := getn (l := B) (i := 4 * i) (by omega)
   have g1 := getn (l := B) (i := 4 * i + 1) (by omega)
   have g2 := getn (l := B) (i := 4 * i + 2) (by omega)
   have g3 := getn (l := B) (i := 4 * i + 3) (by omega)
   have b0 := bel_gt0 hB (by omega) (4 * i)
   have b1 := bel_gt0 hB (by omega) (4 * i + 1)
   have b2 := bel_gt0 hB (by omega) (4 * i + 2)
   have b3 := bel_gt0 hB (by omega) (4 * i + 3)
   have hm0 : imul .u32 ((gt B (4 * i) % 4294967296 : Nat) : Int) 16777216 = ((gt B (4 * i) * 16777216 : Nat) : Int) := by rw [show (16777216 : Int) = ((16777216 : Nat) : Int) from rfl, mul32]; congr 1; omega
   have hm1 : imul .u32 ((gt B (4 * i + 1) % 4294967296 : Nat) : Int) 65536 = ((gt B (4 * i + 1) * 65536 : Nat) : Int) := by rw [show (65536 : Int) = ((65536 : Nat) : Int) from rfl, mul32]; congr 1; omega
   have hm2 : imul .u32 ((gt B (4 * i + 2) % 4294967296 : Nat) : Int) 256 = ((gt B (4 * i + 2) * 256 : Nat) : Int) := by rw [show (256 : Int) = ((256 : Nat) : Int) from rfl, mul32]; congr 1; omega
   have hs : (((gt B (4 * i) * 16777216 + gt B (4 * i + 1) * 65536) % 4294967296 + gt B (4 * i + 2) * 256) % 4294967296 + gt B (4 * i + 3) % 4294967296) % 4294967296 = s1w B W i := by
    unfold s1w; rw [if_pos h16]; unfold be32; omega
   simp only [L184_0, show (i : Int) < 80 by omega, show (i : Int) < 16 by omega, decide_true, cond_true, e4, e1, e2, e3, show (0 : Int) ≤ ((4 * i : Nat) : Int) by omega, show ((4 * i : Nat) : Int) < 64 by omega, show (0 : Int) ≤ ((4 * i + 1 : Nat) : Int) by omega, show ((4 * i + 1 : Nat) : Int) < 64 by omega, show (0 : Int) ≤ ((4 * i + 2 : Nat) : Int) by omega, show ((4 * i + 2 : Nat) : Int) < 64 by omega, show (0 : Int) ≤ ((4 * i + 3 : Nat) : Int) by omega, show ((4 * i + 3 : Nat) : Int) < 64 by omega, Int.toNat_natCast, Bool.and_self, Nat.mul_one, Nat.zero_add, g0, g1, g2, g3, w32, hm0, hm1, hm2, add32, hs, show (0 : Int) ≤ (i : Int) by omega, nI_len, show i < W.length by omega]
   rw [nI_set, up1 (by omega)]
   exact key
  ·have e3 : isub .i64 (i : Int) 3 = ((i - 3 : Nat) : Int) := subn (b := 3) (by omega) (by omega)
   have e8 : isub .i64 (i : Int) 8 = ((i - 8 : Nat) : Int) := subn (b := 8) (by omega) (by omega)
   have e14 : isub .i64 (i : Int) 14 = ((i - 14 : Nat) : Int) := subn (b := 14) (by omega) (by omega)
   have e16 : isub .i64 (i : Int) 16 = ((i - 16 : Nat) : Int) := subn (b := 16) (by omega) (by omega)
   have g3 := getn (l := W) (i := i - 3) (by omega)
   have g8 := getn (l := W) (i := i - 8) (by omega)
   have g14 := getn (l := W) (i := i - 14) (by omega)
   have g16 := getn (l := W) (i := i - 16) (by omega)
   have b3 := bel_gt0 hW (by omega) (i - 3)
   have b8 := bel_gt0 hW (by omega) (i - 8)
   have b14 := bel_gt0 hW (by omega) (i - 14)
   have b16 := bel_gt0 hW (by omega) (i - 16)
   have r := R (((gt W (i - 3) ^^^ gt W (i - 8)) ^^^ gt W (i - 14)) ^^^ gt W (i - 16)) 1 (lt_xor (lt_xor (lt_xor b3 b8) b14) b16) (by omega)
   rw [show ((1 : Nat) : Int) = 1 from rfl, show rotl (((gt W (i - 3) ^^^ gt W (i - 8)) ^^^ gt W (i - 14)) ^^^ gt W (i - 16)) 1 = s1w B W i by unfold s1w; rw [if_neg h16]] at r
   simp only [L184_0, show (i : Int) < 80 by omega, show ¬ ((i : Int) < 16) by omega, decide_true, decide_false, cond_true, cond_false, e3, e8, e14, e16, show (0 : Int) ≤ ((i - 3 : Nat) : Int) by omega, show ((i - 3 : Nat) : Int) < 80 by omega, show (0 : Int) ≤ ((i - 8 : Nat) : Int) by omega, show ((i - 8 : Nat) : Int) < 80 by omega, show (0 : Int) ≤ ((i - 14 : Nat) : Int) by omega, show ((i - 14 : Nat) : Int) < 80 by omega, show (0 : Int) ≤ ((i - 16 : Nat) : Int) by omega, show ((i - 16 : Nat) : Int) < 80 by omega, Int.toNat_natCast, Bool.and_self, Nat.mul_one, Nat.zero_add, g3, g8, g14, g16, show (0 : Int) ≤ (i : Int) by omega, nI_len, show i < W.length by omega]
   rw [xor32 b3 b8, xor32 (lt_xor b3 b8) b14, xor32 (lt_xor (lt_xor b3 b8) b14) b16, r]
   simp only
   rw [nI_set, up1 (by omega)]
   exact key
end
end Go.Proofs.YtdlmhclopdkhcaaDoorE
