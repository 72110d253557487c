/- MD4: the program's block is the reference's. -/
import Derived.Test.YtdlmhclopdkhcaaDoorEvzM1
namespace Go.Proofs.YtdlmhclopdkhcaaDoorE
open Go
set_option linter.unusedSimpArgs false
set_option linter.unusedVariables false
def h194 (r b c d : Int) := p194 0 r b c d
theorem E194 : EntOK FT XT 194 (en194 h194) := ok194 fun _ _ _ _ _ h => ⟨0, h⟩
theorem h194_is (t : Nat) {b c d : Nat} (hb : b < 4294967296) (hc : c < 4294967296) (hd : d < 4294967296) : h194 (t : Int) (b : Int) (c : Int) (d : Int) = some ((m4f t b c d : Nat) : Int) := by
 unfold h194 p194 m4f
 rw [xor32 hc hd, and32 hb (lt_xor hc hd), xor32 hd (lt_and hb), and32 hb hc, or32 hb hc, and32 hd (lt_or hb hc), or32 (lt_and hb) (lt_and hd), xor32 hb hc, xor32 (lt_xor hb hc) hd]
 by_cases h0 : t = 0
 ·subst h0; rfl
 ·rw [show (((t : Int)) == 0) = false from beq_eq_false_iff_ne.2 (by omega), if_neg h0]
  by_cases h2 : t = 1
  ·subst h2; rfl
  ·rw [show (((t : Int)) == 1) = false from beq_eq_false_iff_ne.2 (by omega), if_neg h2]; rfl
def le32 (B : List Nat) (j : Nat) : Nat := gt B j + gt B (j + 1) * 256 + gt B (j + 2) * 65536 + gt B (j + 3) * 16777216
theorem le32_lt {B : List Nat} (h : bel 256 B) (j : Nat) : le32 B j < 4294967296 := by
 have h0 := bel_gt0 h (by omega) j
 have h1 := bel_gt0 h (by omega) (j + 1)
 have h2 := bel_gt0 h (by omega) (j + 2)
 have h3 := bel_gt0 h (by omega) (j + 3)
 unfold le32; omega
def m4X (B : List Nat) : List Nat := (List.range 16).map fun i => le32 B (4 * i)
theorem m4X_len (B : List Nat) : (m4X B).length = 16 := by rw [m4X, List.length_map, List.length_range]
theorem map_gt {f : Nat → Nat} {n i : Nat} (h : i < n) : gt ((List.range n).map f) i = f i := by
 rw [gt, List.getD_eq_getElem?_getD, List.getElem?_map, List.getElem?_range h, Option.map_some, Option.getD_some]
theorem m4X_gt (B : List Nat) {i : Nat} (h : i < 16) : gt (m4X B) i = le32 B (4 * i) := by rw [m4X]; exact map_gt (f := fun i => le32 B (4 * i)) h
theorem set_take {Y W : List Nat} {i x : Nat} (h1 : i < W.length) (h2 : i < Y.length) (ht : W.take i = Y.take i) (hx : gt Y i = x) : (W.set i x).take (i + 1) = Y.take (i + 1) := by
 subst hx
 rw [List.take_add_one, List.getElem?_set_self h1, List.take_set_of_le (Nat.le_refl i), ht, List.take_add_one, gt, List.getD_eq_getElem?_getD, List.getElem?_eq_getElem h2]; rfl
section
variable {c21 : List Int → Bool → Option (Int × Int)}
theorem L192_is (Gt : ∀ a b c d : Nat, a < 256 → b < 256 → c < 256 → d < 256 → c21 [(a : Int), (b : Int), (c : Int), (d : Int)] true = some (((a + b * 256 + c * 65536 + d * 16777216 : Nat) : Int), 0))
  (N : Nat) (q : List Int → List Int → Option (List Int)) (B : List Nat) (hB : bel 256 B) (hl : B.length = 64) (v3 : List Int) :
  ∀ (d i fuel : Nat) (W : List Nat), i + d = 16 → d < fuel → W.length = 16 → W.take i = (m4X B).take i → L192_0 c21 N q fuel (i : Int) (nI B) v3 (nI W) = q v3 (nI (m4X B)) := by
 intro d
 induction d with
 | zero =>
  intro i fuel W hd hf hl2 ht
  obtain ⟨m, rfl⟩ : ∃ m, fuel = m + 1 := ⟨fuel - 1, by omega⟩
  obtain rfl : i = 16 := by omega
  rw [List.take_of_length_le (by omega), List.take_of_length_le (by rw [m4X_len]; omega)] at ht
  simp only [L192_0, show ¬ (((16 : Nat) : Int) < 16) by omega, decide_false, cond_false, ht]
 | succ d ih =>
  intro i fuel W hd hf hl2 ht
  obtain ⟨m, rfl⟩ : ∃ m, fuel = m + 1 := ⟨fuel - 1, by omega⟩
  have hx := m4X_gt B (i := i) (by omega)
  have key := ih (i + 1) m (W.set i (le32 B (4 * i))) (by omega) (by omega) (by rw [List.length_set]; exact hl2) (set_take (by omega) (by rw [m4X_len]; omega) ht hx)
  have e4 : imul .i64 4 (i : Int) = ((4 * i : Nat) : Int) := muln (a := 4) (by omega)
  have e44 : iadd .i64 ((4 * i : Nat) : Int) 4 = ((4 * i + 4 : Nat) : Int) := addn (b := 4) (by omega)
  have hs := slice4 (B := B) (j := 4 * i) (by omega)
  have hg := Gt (gt B (4 * i)) (gt B (4 * i + 1)) (gt B (4 * i + 2)) (gt B (4 * i + 3)) (bel_gt0 hB (by omega) _) (bel_gt0 hB (by omega) _) (bel_gt0 hB (by omega) _) (bel_gt0 hB (by omega) _)
  rw [show gt B (4 * i) + gt B (4 * i + 1) * 256 + gt B (4 * i + 2) * 65536 + gt B (4 * i + 3) * 16777216 = le32 B (4 * i) by rw [le32]] at hg
  have hw : IntKind.u32.wrap ((le32 B (4 * i) : Nat) : Int) = ((le32 B (4 * i) : Nat) : Int) := by rw [w32, Nat.mod_eq_of_lt (le32_lt hB _)]
  simp only [L192_0, show (i : Int) < 16 by omega, decide_true, cond_true, nI_len, hl, Nat.le_refl, e4, e44, show (0 : Int) ≤ ((4 * i + 4 : Nat) : Int) by omega, show ((4 * i + 4 : Nat) : Int) ≤ 64 by omega, show (0 : Int) ≤ ((4 * i : Nat) : Int) by omega, Int.toNat_natCast, show ((4 * i : Nat) : Int) ≤ ((4 * i + 4 : Nat) : Int) by omega, Bool.and_self, Nat.mul_one, Nat.zero_add, show 4 * i + 4 - 4 * i = 4 by omega, show 4 * i + 4 ≤ 64 by omega, hs, hg, show (0 : Int) ≤ (i : Int) by omega, show i < W.length by omega]
  rw [hw, nI_set, up1 (by omega)]
  exact key
end
def h192 (l : List Int) := p192 h21 100 l
theorem E192 : EntOK FT XT 192 (en192 h192) := ok192 h21 E21 fun _ _ h => ⟨100, h⟩
theorem h192_is {B : List Nat} (hB : bel 256 B) (hl : B.length = 64) : h192 (nI B) = some (nI (m4X B)) := by
 unfold h192 p192
 rw [show ([(0 : Int), (0 : Int), (0 : Int), (0 : Int), (0 : Int), (0 : Int), (0 : Int), (0 : Int), (0 : Int), (0 : Int), (0 : Int), (0 : Int), (0 : Int), (0 : Int), (0 : Int), (0 : Int)] : List Int) = nI (List.replicate 16 0) from rfl]
 refine (L192_is (fun a b c d ha hb hc hd => get_le ha hb hc hd) 100 _ B hB hl _ 16 0 100 (List.replicate 16 0) (by omega) (by omega) (by simp) (by simp)).trans ?_
 exact row_fin (k := 16) rfl (by rw [nI_len, m4X_len])
def h193 := p193v0 h75 0
theorem R193 : REntOK FT XT 193 (rn193v0 h193) := ok193v0 h75 E75 fun _ h => ⟨0, h⟩
theorem h193_is : h193 = some ((((0 : Int), ((3 : Int), ((7 : Int), ((11 : Int), ((19 : Int), ((0 : Int), ((1 : Int), ((2 : Int), ((3 : Int), ((4 : Int), ((5 : Int), ((6 : Int), ((7 : Int), ((8 : Int), ((9 : Int), ((10 : Int), ((11 : Int), ((12 : Int), ((13 : Int), ((14 : Int), ((15 : Int), ((1518500249 : Int), ((3 : Int), ((5 : Int), ((9 : Int), ((13 : Int), ((0 : Int), ((4 : Int), ((8 : Int), ((12 : Int), ((1 : Int), ((5 : Int), ((9 : Int), ((13 : Int), ((2 : Int), ((6 : Int), ((10 : Int), ((14 : Int), ((3 : Int), ((7 : Int), ((11 : Int), ((15 : Int), ((1859775393 : Int), ((3 : Int), ((9 : Int), ((11 : Int), ((15 : Int), ((0 : Int), ((8 : Int), ((4 : Int), ((12 : Int), ((2 : Int), ((10 : Int), ((6 : Int), ((14 : Int), ((1 : Int), ((9 : Int), ((5 : Int), ((13 : Int), ((3 : Int), ((11 : Int), ((7 : Int), ((15 : Int), ()))))))))))))))))))))))))))))))))))))))))))))))))))))))))))))))), ()), ()) := by kernel_rfl
def m4add (s t : S4) : S4 := ⟨(t.a + s.a) % 4294967296, (t.b + s.b) % 4294967296, (t.c + s.c) % 4294967296, (t.d + s.d) % 4294967296⟩
theorem m4add_ok (s t : S4) : (m4add s t).ok := ⟨mod32 _, mod32 _, mod32 _, mod32 _⟩
def m4blk (s : S4) (B : List Nat) : S4 := m4add s (runs (m4st (m4X B)) 48 0 s)
theorem m4blk_ok (s : S4) (B : List Nat) : (m4blk s B).ok := by rw [m4blk]; exact m4add_ok _ _
theorem h4 (s : S4) : List.take 4 (List.drop 0 (nI s.l)) = nI s.l := by rw [List.drop_zero, List.take_of_length_le (by rw [nI_len, s4l_len]; omega)]
theorem d4 (s : S4) : List.drop 4 (nI s.l) = [] := List.drop_of_length_le (by rw [nI_len, s4l_len]; omega)
theorem add4 (s t : S4) : [iadd .u32 ((t.a : Nat) : Int) ((s.a : Nat) : Int), iadd .u32 ((t.b : Nat) : Int) ((s.b : Nat) : Int), iadd .u32 ((t.c : Nat) : Int) ((s.c : Nat) : Int), iadd .u32 ((t.d : Nat) : Int) ((s.d : Nat) : Int)] = nI (m4add s t).l := by
 simp only [add32]; rw [m4add, nI4]
def mP0 : List Nat := [0, 1, 2, 3, 4, 5, 6, 7, 8, 9, 10, 11, 12, 13, 14, 15]
def mP1 : List Nat := [0, 4, 8, 12, 1, 5, 9, 13, 2, 6, 10, 14, 3, 7, 11, 15]
def mP2 : List Nat := [0, 8, 4, 12, 2, 10, 6, 14, 1, 9, 5, 13, 3, 11, 7, 15]
theorem mPb0 : bel 16 mP0 := show ∀ x ∈ mP0, x < 16 by decide
theorem mPb1 : bel 16 mP1 := show ∀ x ∈ mP1, x < 16 by decide
theorem mPb2 : bel 16 mP2 := show ∀ x ∈ mP2, x < 16 by decide
theorem mP_at : (∀ k, k < 16 → gt m4P (0 + k) = gt mP0 k) ∧ (∀ k, k < 16 → gt m4P (16 + k) = gt mP1 k) ∧ (∀ k, k < 16 → gt m4P (32 + k) = gt mP2 k) := by decide
theorem m4runs (X : List Nat) (s : S4) : runs (fun i s => m4step 2 (gt X (gt mP2 i)) 1859775393 (gt [3, 9, 11, 15] (i % 4)) s) 16 0 (runs (fun i s => m4step 1 (gt X (gt mP1 i)) 1518500249 (gt [3, 5, 9, 13] (i % 4)) s) 16 0 (runs (fun i s => m4step 0 (gt X (gt mP0 i)) 0 (gt [3, 7, 11, 19] (i % 4)) s) 16 0 s)) = runs (m4st X) 48 0 s := by
 obtain ⟨h0, h1, h2⟩ := mP_at
 rw [show (48 : Nat) = 16 + (16 + 16) from rfl, runs_add, runs_add]
 rw [runs_congr (f := m4st X) (g := fun i s => m4step 0 (gt X (gt mP0 i)) 0 (gt [3, 7, 11, 19] (i % 4)) s) 16 0 0 s (fun k s hk => by
  rw [m4st, h0 k hk, show (0 + k) / 16 = 0 by omega, Nat.zero_add]; rfl)]
 rw [runs_congr (f := m4st X) (g := fun i s => m4step 1 (gt X (gt mP1 i)) 1518500249 (gt [3, 5, 9, 13] (i % 4)) s) 16 (0 + 16) 0 _ (fun k s hk => by
  rw [m4st, show 0 + 16 + k = 16 + k by omega, h1 k hk, show (16 + k) / 16 = 1 by omega, show (16 + k) % 4 = k % 4 by omega, Nat.zero_add]; rfl)]
 rw [runs_congr (f := m4st X) (g := fun i s => m4step 2 (gt X (gt mP2 i)) 1859775393 (gt [3, 9, 11, 15] (i % 4)) s) 16 (0 + 16 + 16) 0 _ (fun k s hk => by
  rw [m4st, show 0 + 16 + 16 + k = 32 + k by omega, h2 k hk, show (32 + k) / 16 = 2 by omega, show (32 + k) % 4 = k % 4 by omega, Nat.zero_add]; rfl)]
section
variable {c192 : List Int → Option (List Int)} {d193v0 : Option (((Int × (Int × (Int × (Int × (Int × (Int × (Int × (Int × (Int × (Int × (Int × (Int × (Int × (Int × (Int × (Int × (Int × (Int × (Int × (Int × (Int × (Int × (Int × (Int × (Int × (Int × (Int × (Int × (Int × (Int × (Int × (Int × (Int × (Int × (Int × (Int × (Int × (Int × (Int × (Int × (Int × (Int × (Int × (Int × (Int × (Int × (Int × (Int × (Int × (Int × (Int × (Int × (Int × (Int × (Int × (Int × (Int × (Int × (Int × (Int × (Int × (Int × (Int × Unit))))))))))))))))))))))))))))))))))))))))))))))))))))))))))))))) × Unit) × Unit)} {c194 : Int → Int → Int → Int → Option Int} {c195 : Int → Int → Option Int}
theorem L174_2_is (q : List Int → List Int → Option (List Int)) (v28 : List Int) (s0 s1 s2 s3 t0 t1 t2 t3 : Int) :
  L174_2 c192 d193v0 c194 c195 100 q 100 0 [s0, s1, s2, s3] v28 [t0, t1, t2, t3] = q v28 [iadd .u32 t0 s0, iadd .u32 t1 s1, iadd .u32 t2 s2, iadd .u32 t3 s3] := by kernel_rfl
set_option maxHeartbeats 4000000 in
theorem p174_is (R : ∀ x n : Nat, x < 4294967296 → n < 32 → c195 (x : Int) (n : Int) = some ((rotl x n : Nat) : Int)) (F : ∀ r b c d : Nat, b < 4294967296 → c < 4294967296 → d < 4294967296 → c194 (r : Int) (b : Int) (c : Int) (d : Int) = some ((m4f r b c d : Nat) : Int))
  (FW : ∀ B : List Nat, bel 256 B → B.length = 64 → c192 (nI B) = some (nI (m4X B))) (FP : d193v0 = some ((((0 : Int), ((3 : Int), ((7 : Int), ((11 : Int), ((19 : Int), ((0 : Int), ((1 : Int), ((2 : Int), ((3 : Int), ((4 : Int), ((5 : Int), ((6 : Int), ((7 : Int), ((8 : Int), ((9 : Int), ((10 : Int), ((11 : Int), ((12 : Int), ((13 : Int), ((14 : Int), ((15 : Int), ((1518500249 : Int), ((3 : Int), ((5 : Int), ((9 : Int), ((13 : Int), ((0 : Int), ((4 : Int), ((8 : Int), ((12 : Int), ((1 : Int), ((5 : Int), ((9 : Int), ((13 : Int), ((2 : Int), ((6 : Int), ((10 : Int), ((14 : Int), ((3 : Int), ((7 : Int), ((11 : Int), ((15 : Int), ((1859775393 : Int), ((3 : Int), ((9 : Int), ((11 : Int), ((15 : Int), ((0 : Int), ((8 : Int), ((4 : Int), ((12 : Int), ((2 : Int), ((10 : Int), ((6 : Int), ((14 : Int), ((1 : Int), ((9 : Int), ((5 : Int), ((13 : Int), ((3 : Int), ((11 : Int), ((7 : Int), ((15 : Int), ()))))))))))))))))))))))))))))))))))))))))))))))))))))))))))))))), ()), ())) {s : S4} {B : List Nat} (hs : s.ok) (hB : bel 256 B) (hl : B.length = 64) :
  p174 c192 d193v0 c194 c195 100 (nI s.l) (nI B) = some (nI (m4blk s B).l) := by
 have h1 : List.take 64 (List.drop 0 (nI B)) = nI B := by rw [List.drop_zero, List.take_of_length_le (by rw [nI_len]; omega)]
 have hX := m4X_len B
 have c1 : decide (64 ≤ (nI B).length) = true := by rw [nI_len, hl]; rfl
 have c2 : ((nI (m4X B)).length == 16) = true := by rw [nI_len, hX]; rfl
 have c3 : decide (0 + (nI (m4X B)).length ≤ 16) = true := by rw [nI_len, hX]; rfl
 have c4 : decide (4 ≤ (nI s.l).length) = true := by rw [nI_len, s4l_len]; rfl
 have c5 : ((nI s.l).length == 4) = true := by rw [nI_len, s4l_len]; rfl
 have c6 : decide (0 + (nI s.l).length ≤ 4) = true := by rw [nI_len, s4l_len]; rfl
 have r1 : (([] ++ nI (m4X B)) ++ List.drop (0 + (nI (m4X B)).length) [(0 : Int), (0 : Int), (0 : Int), (0 : Int), (0 : Int), (0 : Int), (0 : Int), (0 : Int), (0 : Int), (0 : Int), (0 : Int), (0 : Int), (0 : Int), (0 : Int), (0 : Int), (0 : Int)]) = nI (m4X B) := row_in (k := 16) (by rw [nI_len, hX]) rfl
 have r2 : (([] ++ nI s.l) ++ List.drop (0 + (nI s.l).length) [(0 : Int), (0 : Int), (0 : Int), (0 : Int)]) = nI s.l := row_in (k := 4) (by rw [nI_len, s4l_len]) rfl
 unfold p174
 rw [c1, cond_true, h1, FW B hB hl]
 refine Eq.trans (b := (bif ((nI (m4X B)).length == 16) then _ else none)) rfl ?_
 rw [c2, cond_true, c3, cond_true, c4, cond_true, h4, c5, cond_true, c6, cond_true, r1, r2, FP]
 refine (L174_0_0 _ 99 _ _ _ _).trans ?_
 refine (L174_1_at R 0 (F 0) mP0 (m4X B) rfl mPb0 hX 0 3 7 11 19 (by omega) (by omega) (by omega) (by omega) _ _ _ _ _ _ _ _ _ _ _ _ _ _ _ _ _ _ _ _ _ _ _ _ _ _ _ _ _ _ _ _ _ _ _ _ _ _ _ _ _ _ _ _ _ _ _ _ _ _ _ _ _ _ _ _ _ _ _ _ _ _ _ _ _ _ _ _ _ _ _ _ _ _ _ _ _ _ _ _ _ _ _ s hs _ _ _ _ _ _ _ rfl rfl rfl rfl rfl rfl rfl).trans ?_
 have hs0 : (runs (fun i s => m4step 0 (gt (m4X B) (gt mP0 i)) 0 (gt [3, 7, 11, 19] (i % 4)) s) 16 0 s).ok := runs_ok (fun i s h => m4step_ok h) 16 0 s hs
 have hfin := m4runs (m4X B) s
 generalize runs (fun i s => m4step 0 (gt (m4X B) (gt mP0 i)) 0 (gt [3, 7, 11, 19] (i % 4)) s) 16 0 s = s0 at *
 refine (L174_0_1 _ 98 _ _ _ _).trans ?_
 refine (L174_1_at R 1 (F 1) mP1 (m4X B) rfl mPb1 hX 1518500249 3 5 9 13 (by omega) (by omega) (by omega) (by omega) _ _ _ _ _ _ _ _ _ _ _ _ _ _ _ _ _ _ _ _ _ _ _ _ _ _ _ _ _ _ _ _ _ _ _ _ _ _ _ _ _ _ _ _ _ _ _ _ _ _ _ _ _ _ _ _ _ _ _ _ _ _ _ _ _ _ _ _ _ _ _ _ _ _ _ _ _ _ _ _ _ _ _ s0 hs0 _ _ _ _ _ _ _ rfl rfl rfl rfl rfl rfl rfl).trans ?_
 have hs1 : (runs (fun i s => m4step 1 (gt (m4X B) (gt mP1 i)) 1518500249 (gt [3, 5, 9, 13] (i % 4)) s) 16 0 s0).ok := runs_ok (fun i s h => m4step_ok h) 16 0 s0 hs0
 generalize runs (fun i s => m4step 1 (gt (m4X B) (gt mP1 i)) 1518500249 (gt [3, 5, 9, 13] (i % 4)) s) 16 0 s0 = s1 at *
 refine (L174_0_2 _ 97 _ _ _ _).trans ?_
 refine (L174_1_at R 2 (F 2) mP2 (m4X B) rfl mPb2 hX 1859775393 3 9 11 15 (by omega) (by omega) (by omega) (by omega) _ _ _ _ _ _ _ _ _ _ _ _ _ _ _ _ _ _ _ _ _ _ _ _ _ _ _ _ _ _ _ _ _ _ _ _ _ _ _ _ _ _ _ _ _ _ _ _ _ _ _ _ _ _ _ _ _ _ _ _ _ _ _ _ _ _ _ _ _ _ _ _ _ _ _ _ _ _ _ _ _ _ _ s1 hs1 _ _ _ _ _ _ _ rfl rfl rfl rfl rfl rfl rfl).trans ?_
 rw [hfin]
 refine (L174_0_3 _ 96 _ _ _ _).trans ?_
 rw [m4blk]
 generalize runs (m4st (m4X B)) 48 0 s = t
 rw [nI4 s, nI4 t]
 refine (L174_2_is _ _ _ _ _ _ _ _ _ _).trans ?_
 rw [add4]
 exact row_fin (k := 4) rfl (by rw [nI_len, s4l_len])
end
def h174 (s b : List Int) := p174 h192 h193 h194 h195 100 s b
theorem E174 : EntOK FT XT 174 (en174 h174) := ok174 h192 h193 h194 h195 E192 E194 E195 R193 fun _ _ _ h => ⟨100, h⟩
theorem h174_is {s : S4} {B : List Nat} (hs : s.ok) (hB : bel 256 B) (hl : B.length = 64) : h174 (nI s.l) (nI B) = some (nI (m4blk s B).l) :=
 p174_is (fun x n hx hn => rot_is hx hn) (fun r b c d hb hc hd => h194_is r hb hc hd) (fun B hB hl => h192_is hB hl) h193_is hs hB hl
def h204 (b c d : Int) := p204 0 b c d
theorem E204 : EntOK FT XT 204 (en204 h204) := ok204 fun _ _ _ _ h => ⟨0, h⟩
def h198 (r b c d : Int) := p198 h204 0 r b c d
theorem E198 : EntOK FT XT 198 (en198 h198) := ok198 h204 E204 fun _ _ _ _ _ h => ⟨0, h⟩
theorem h198_is {r b c d : Nat} (hr : r < 3) (hb : b < 4294967296) (hc : c < 4294967296) (hd : d < 4294967296) : h198 (r : Int) (b : Int) (c : Int) (d : Int) = some (((m4f r b c d + gt m4C r) % 4294967296 : Nat) : Int) := by
 have hn : 4294967295 - b < 4294967296 := by omega
 unfold h198 p198 h204 p204
 rw [not32 hb, and32 hb hc, and32 hn hd, or32 (lt_and hb) (lt_and hn), ch_or hb hc hd, and32 hb hd, and32 hc hd, or32 (lt_and hb) (lt_and hb), or32 (lt_or (lt_and hb) (lt_and hb)) (lt_and hc), maj_or, xor32 hb hc, xor32 (lt_xor hb hc) hd]
 have hq : r = 0 ∨ r = 1 ∨ r = 2 := by omega
 rcases hq with h | h | h
 ·subst h
  have : (ch b c d + 0) % 4294967296 = ch b c d := Nat.mod_eq_of_lt (ch_lt hb hc hd)
  show some _ = some (((ch b c d + 0) % 4294967296 : Nat) : Int)
  rw [this]
 ·subst h; exact congrArg some (add32 _ 1518500249)
 ·subst h; exact congrArg some (add32 _ 1859775393)
def h196 (i : Int) := p196 0 i
theorem E196 : EntOK FT XT 196 (en196 h196) := ok196 fun _ _ h => ⟨0, h⟩
theorem h196_all : ((List.range 48).all fun i => h196 (i : Int) == some ((gt m4P i : Nat) : Int)) = true := by kernel_rfl
theorem h196_is {i : Nat} (hi : i < 48) : h196 (i : Int) = some ((gt m4P i : Nat) : Int) := eq_of_beq (List.all_eq_true.1 h196_all i (List.mem_range.2 hi))
theorem m4P_lt {i : Nat} (hi : i < 48) : gt m4P i < 16 := (show ∀ i, i < 48 → gt m4P i < 16 by decide) i hi
def h197 (x n : Int) := p197 0 x n
theorem E197 : EntOK FT XT 197 (en197 h197) := ok197 fun _ _ _ h => ⟨0, h⟩
theorem h197_is {x n : Nat} (hx : x < 4294967296) (hn : n < 32) : h197 (x : Int) (n : Int) = some ((rotl x n : Nat) : Int) := by
 unfold h197 p197
 have e : isub .i64 32 (n : Int) = ((32 - n : Nat) : Int) := subn (a := 32) (by omega) (by omega)
 rw [e]
 simp only [show ¬ ((n : Int) < 0) by omega, decide_false, cond_false, show ¬ (((32 - n : Nat) : Int) < 0) by omega]
 rw [rotl_of hx (by omega)]
theorem m4T_lt (r i : Nat) (hr : r < 3) : gt (m4T.getD r []) (i % 4) < 32 := (show ∀ r, r < 3 → ∀ j, j < 4 → gt (m4T.getD r []) j < 32 by decide) r hr (i % 4) (by omega)
theorem m4T_get {r : Nat} (hr : r < 3) : (m4T.map nI)[r]? = some (nI (m4T.getD r [])) ∧ (m4T.getD r []).length = 4 := by
 rcases (show r = 0 ∨ r = 1 ∨ r = 2 by omega) with h | h | h <;> subst h <;> exact ⟨rfl, rfl⟩
section
variable {c196 : Int → Option Int} {c198 : Int → Int → Int → Int → Option Int} {c197 : Int → Int → Option Int}
theorem L175_1_is (q : List Int → List Int → Option (List Int)) (v28 : List Int) (s0 s1 s2 s3 t0 t1 t2 t3 : Int) :
  L175_1 c196 c198 c197 100 q 100 0 [s0, s1, s2, s3] v28 [t0, t1, t2, t3] = q v28 [iadd .u32 t0 s0, iadd .u32 t1 s1, iadd .u32 t2 s2, iadd .u32 t3 s3] := by kernel_rfl
theorem L175_0_is (R : ∀ x n : Nat, x < 4294967296 → n < 32 → c197 (x : Int) (n : Int) = some ((rotl x n : Nat) : Int)) (F : ∀ r b c d : Nat, r < 3 → b < 4294967296 → c < 4294967296 → d < 4294967296 → c198 (r : Int) (b : Int) (c : Int) (d : Int) = some (((m4f r b c d + gt m4C r) % 4294967296 : Nat) : Int)) (FP : ∀ i : Nat, i < 48 → c196 (i : Int) = some ((gt m4P i : Nat) : Int))
  (N : Nat) (q : List Int → List Int → List Int → Option (List Int)) (B : List Nat) (hB : bel 256 B) (hl : B.length = 64) (v3 v5 : List Int) :
  ∀ (d i fuel : Nat) (s : S4), i + d = 48 → d < fuel → s.ok → L175_0 c196 c198 c197 N q fuel (m4T.map nI) (i : Int) v3 (nI B) v5 (nI s.l) = q v3 v5 (nI (runs (m4st (m4X B)) d i s).l) := by
 intro d
 induction d with
 | zero =>
  intro i fuel s hd hf hs
  obtain ⟨m, rfl⟩ : ∃ m, fuel = m + 1 := ⟨fuel - 1, by omega⟩
  obtain rfl : i = 48 := by omega
  rw [runs_zero]
  simp only [L175_0, show ¬ (((48 : Nat) : Int) < 48) by omega, decide_false, cond_false]
 | succ d ih =>
  intro i fuel s hd hf hs
  obtain ⟨m, rfl⟩ : ∃ m, fuel = m + 1 := ⟨fuel - 1, by omega⟩
  have hr3 : i / 16 < 3 := by omega
  have key := ih (i + 1) m (m4st (m4X B) i s) (by omega) (by omega) (m4st_ok hs)
  have hp := m4P_lt (i := i) (by omega)
  have hx := m4X_gt B hp
  have hj : 4 * gt m4P i + 3 < B.length := by omega
  generalize hjj : gt m4P i = j at *
  have e4 : imul .i64 4 (j : Int) = ((4 * j : Nat) : Int) := muln (a := 4) (by omega)
  have e1 : iadd .i64 ((4 * j : Nat) : Int) 1 = ((4 * j + 1 : Nat) : Int) := addn (b := 1) (by omega)
  have e2 : iadd .i64 ((4 * j : Nat) : Int) 2 = ((4 * j + 2 : Nat) : Int) := addn (b := 2) (by omega)
  have e3 : iadd .i64 ((4 * j : Nat) : Int) 3 = ((4 * j + 3 : Nat) : Int) := addn (b := 3) (by omega)
  have g0 := getn (l := B) (i := 4 * j) (by omega)
  have g1 := getn (l := B) (i := 4 * j + 1) (by omega)
  have g2 := getn (l := B) (i := 4 * j + 2) (by omega)
  have g3 := getn (l := B) (i := 4 * j + 3) (by omega)
  have b0 := bel_gt0 hB (by omega) (4 * j)
  have b1 := bel_gt0 hB (by omega) (4 * j + 1)
  have b2 := bel_gt0 hB (by omega) (4 * j + 2)
  have b3 := bel_gt0 hB (by omega) (4 * j + 3)
  have hm1 : imul .u32 ((gt B (4 * j + 1) % 4294967296 : Nat) : Int) 256 = ((gt B (4 * j + 1) * 256 : Nat) : Int) := by rw [show (256 : Int) = ((256 : Nat) : Int) from rfl, mul32]; congr 1; omega
  have hm2 : imul .u32 ((gt B (4 * j + 2) % 4294967296 : Nat) : Int) 65536 = ((gt B (4 * j + 2) * 65536 : Nat) : Int) := by rw [show (65536 : Int) = ((65536 : Nat) : Int) from rfl, mul32]; congr 1; omega
  have hm3 : imul .u32 ((gt B (4 * j + 3) % 4294967296 : Nat) : Int) 16777216 = ((gt B (4 * j + 3) * 16777216 : Nat) : Int) := by rw [show (16777216 : Int) = ((16777216 : Nat) : Int) from rfl, mul32]; congr 1; omega
  have hw : (((gt B (4 * j) % 4294967296 + gt B (4 * j + 1) * 256) % 4294967296 + gt B (4 * j + 2) * 65536) % 4294967296 + gt B (4 * j + 3) * 16777216) % 4294967296 = gt (m4X B) j := by
   rw [hx]; unfold le32; omega
  have e16 : iquo .i64 (i : Int) 16 = ((i / 16 : Nat) : Int) := quon (b := 16) (by omega)
  have er : irem (i : Int) 4 = ((i % 4 : Nat) : Int) := irem_n i 4
  obtain ⟨ht1, ht2⟩ := m4T_get hr3
  have ht3 := getn (l := m4T.getD (i / 16) []) (i := i % 4) (by omega)
  have htl := m4T_lt (i / 16) i hr3
  have f1 := F (i / 16) s.b s.c s.d hr3 hs.b hs.c hs.d
  have hst : nI (m4st (m4X B) i s).l = [((s.d : Nat) : Int), ((rotl ((((s.a + m4f (i / 16) s.b s.c s.d) % 4294967296 + gt (m4X B) j) % 4294967296 + gt m4C (i / 16)) % 4294967296) (gt (m4T.getD (i / 16) []) (i % 4)) : Nat) : Int), ((s.b : Nat) : Int), ((s.c : Nat) : Int)] := by rw [m4st, m4step_nI, hjj]
  have hsum : ((s.a + (m4f (i / 16) s.b s.c s.d + gt m4C (i / 16)) % 4294967296) % 4294967296 + gt (m4X B) j) % 4294967296 = (((s.a + m4f (i / 16) s.b s.c s.d) % 4294967296 + gt (m4X B) j) % 4294967296 + gt m4C (i / 16)) % 4294967296 := by omega
  have hr := R _ _ (mod32 (((s.a + m4f (i / 16) s.b s.c s.d) % 4294967296 + gt (m4X B) j) % 4294967296 + gt m4C (i / 16))) htl
  have fp := FP i (by omega)
  rw [hjj] at fp
  rw [runs_succ, nI4]
  simp only [L175_0, show (i : Int) < 48 by omega, decide_true, cond_true, fp, e4, e1, e2, e3, show (0 : Int) ≤ ((4 * j : Nat) : Int) by omega, show ((4 * j : Nat) : Int) < 64 by omega, show (0 : Int) ≤ ((4 * j + 1 : Nat) : Int) by omega, show ((4 * j + 1 : Nat) : Int) < 64 by omega, show (0 : Int) ≤ ((4 * j + 2 : Nat) : Int) by omega, show ((4 * j + 2 : Nat) : Int) < 64 by omega, show (0 : Int) ≤ ((4 * j + 3 : Nat) : Int) by omega, show ((4 * j + 3 : Nat) : Int) < 64 by omega, Bool.and_self, Int.toNat_natCast, Nat.mul_one, Nat.zero_add, g0, g1, g2, g3, List.getElem?_cons_zero, List.getElem?_cons_succ, e16, f1, geti_nat, ht1, er, ht3, w32, hm1, hm2, hm3, add32, hw, hsum, hr, List.length_cons, List.length_nil, Nat.le_refl, take0, List.nil_append, List.drop_succ_cons, List.drop_zero, List.append_nil]
  rw [up1 (by omega), ← hst]
  exact key
theorem p175_is (R : ∀ x n : Nat, x < 4294967296 → n < 32 → c197 (x : Int) (n : Int) = some ((rotl x n : Nat) : Int)) (F : ∀ r b c d : Nat, r < 3 → b < 4294967296 → c < 4294967296 → d < 4294967296 → c198 (r : Int) (b : Int) (c : Int) (d : Int) = some (((m4f r b c d + gt m4C r) % 4294967296 : Nat) : Int)) (FP : ∀ i : Nat, i < 48 → c196 (i : Int) = some ((gt m4P i : Nat) : Int))
  {s : S4} {B : List Nat} (hs : s.ok) (hB : bel 256 B) (hl : B.length = 64) : p175 c196 c198 c197 100 (nI s.l) (nI B) = some (nI (m4blk s B).l) := by
 unfold p175
 rw [h4]
 simp only [nI_len, s4l_len, Nat.le_refl, decide_true, cond_true, beq_self_eq_true, Nat.zero_add]
 rw [List.nil_append, show List.drop 4 [(0 : Int), (0 : Int), (0 : Int), (0 : Int)] = ([] : List Int) from rfl, List.append_nil]
 refine (L175_0_is R F FP 100 _ B hB hl (nI s.l) [(0 : Int), (0 : Int), (0 : Int), (0 : Int)] 48 0 100 s (by omega) (by omega) hs).trans ?_
 rw [m4blk]
 generalize runs (m4st (m4X B)) 48 0 s = t
 rw [nI4 s, nI4 t]
 refine (L175_1_is _ _ _ _ _ _ _ _ _ _).trans ?_
 rw [add4]
 exact row_fin (k := 4) rfl (by rw [nI_len, s4l_len])
end
def h175 (s b : List Int) := p175 h196 h198 h197 100 s b
theorem E175 : EntOK FT XT 175 (en175 h175) := ok175 h196 h198 h197 E196 E198 E197 fun _ _ _ h => ⟨100, h⟩
theorem h175_is {s : S4} {B : List Nat} (hs : s.ok) (hB : bel 256 B) (hl : B.length = 64) : h175 (nI s.l) (nI B) = some (nI (m4blk s B).l) :=
 p175_is (fun x n hx hn => h197_is hx hn) (fun r b c d hr hb hc hd => h198_is hr hb hc hd) (fun i hi => h196_is hi) hs hB hl
end Go.Proofs.YtdlmhclopdkhcaaDoorE
