/- SHA-1: the laws Sha1Blocks, Sha1Is, Sha1Parts answer true. -/
import Derived.Test.YtdlmhclopdkhcaaDoorEvzS2
namespace Go.Proofs.YtdlmhclopdkhcaaDoorE
open Go
set_option linter.unusedSimpArgs false
set_option linter.unusedVariables false
theorem p185_is {c19 : Int → Int → Bool → Option ((List Int) × Int)} (F : ∀ m : Nat, c19 (m : Int) 8 false = some (nI (le8 m).reverse, 0)) {N n : Nat} : p185 c19 N (n : Int) = some (nI (tail (le8 (bits8 n)).reverse n)) := by
 have h8 : imul .u64 (n : Int) 8 = ((bits8 n : Nat) : Int) := by
  have := mul64 n 8
  rw [Nat.mul_comm] at this
  exact this
 have hz := nz_lt n
 unfold p185
 rw [zc_is n, h8, F]
 have hl : (le8 (bits8 n)).reverse.length = 8 := rfl
 unfold tail
 generalize (le8 (bits8 n)).reverse = e at hl ⊢
 generalize nz n = z at hz ⊢
 have hrep : (List.replicate z (0 : Int)) = nI (List.replicate z 0) := nI_rep z 0
 rw [Int.toNat_natCast, hrep]
 have hpre : ([128] : List Int) ++ nI (List.replicate z 0) = nI (128 :: List.replicate z 0) := rfl
 have hpl : (nI (128 :: List.replicate z 0)).length = 1 + z := by simp [nI_len]; omega
 have htot : nI (128 :: List.replicate z 0) ++ nI e = nI (128 :: (List.replicate z 0 ++ e)) := by rw [nI_app]; rfl
 have htl : (nI (128 :: (List.replicate z 0 ++ e))).length = 1 + z + 8 := by simp [nI_len, hl]; omega
 have hzl : (nI (List.replicate z 0)).length = z := by simp [nI_len]
 simp only [show (0 : Int) ≤ ((z : Nat) : Int) by omega, show ((z : Nat) : Int) * ((1 : Nat) : Int) ≤ 1099511627776 by omega, show ((z : Nat) : Int) ≤ 1099511627776 by omega, decide_true, Bool.and_self, cond_true, hzl, Nat.mul_one, beq_self_eq_true, hpre, hpl, nI_len, hl, htot, htl]
 rcases Nat.eq_zero_or_pos z with h0 | hp
 ·subst h0
  simp only [show ¬ (1 < 1 + 0) by omega, decide_false, cond_false, show 1 + 0 ≤ 1 by omega, decide_true, cond_true, show 1 < 1 + 0 + 8 by omega, show 1 + 0 + 8 ≤ 1099511627776 by omega, Bool.and_self]
  have hd : List.drop (1 + 0) [(128 : Int)] = [] := rfl
  rw [hd, List.append_nil, hpl]
  have ht : List.take (1 + 0) (List.drop 0 (nI (128 :: List.replicate 0 0))) = nI (128 :: List.replicate 0 0) := rfl
  rw [ht, htot, htl]
  simp only [Nat.zero_add, Nat.le_refl, decide_true, cond_true, List.drop_zero]
  rw [List.take_of_length_le (by rw [htl]; exact Nat.le_refl _)]
 ·simp only [show 1 < 1 + z by omega, decide_true, cond_true, show 1 + z ≤ 1099511627776 by omega, show 1 + z + 8 ≤ 1099511627776 by omega, Bool.and_self, Nat.zero_add, Nat.le_refl, List.drop_zero]
  rw [List.take_of_length_le (by rw [htl]; exact Nat.le_refl _)]
def h185 (n : Int) := p185 h19 0 n
theorem E185 : EntOK FT XT 185 (en185 h185) := ok185 h19 E19 fun _ _ h => ⟨0, h⟩
theorem h185_is (n : Nat) : h185 (n : Int) = some (nI (tail (le8 (bits8 n)).reverse n)) := p185_is fun m => put_be8 m
def s1I : S5 := (1732584193, 4023233417, 2562383102, 271733878, 3285377520)
theorem s1I_ok : s1I.ok := by unfold S5.ok s1I; decide
def h187 := p187 0
theorem E187 : EntOK FT XT 187 (en187 h187) := ok187 fun _ h => ⟨0, h⟩
theorem h187_is : h187 = some (nI s1I.l) := rfl
def h179 := p179 0
theorem E179 : EntOK FT XT 179 (en179 h179) := ok179 fun _ h => ⟨0, h⟩
def h188 := p188 h179 0
theorem E188 : EntOK FT XT 188 (en188 h188) := ok188 h179 E179 fun _ h => ⟨0, h⟩
theorem h188_is : h188 = some (nI s1I.l) := by kernel_rfl
/-- bytes, and what is put behind -/
def s1msg (b : List Nat) : List Nat := b ++ tail (le8 (bits8 b.length)).reverse b.length
theorem s1msg_len (b : List Nat) : (s1msg b).length = b.length + (nz b.length + 9) := by
 unfold s1msg; rw [List.length_append, tail_len _ rfl]
theorem s1msg_mod (b : List Nat) : (s1msg b).length = 64 * ((s1msg b).length / 64) := by
 have := nz_mod b.length
 have := s1msg_len b
 omega
theorem le8_bel (m : Nat) : bel 256 (le8 m) := fun x hx => by
 simp only [le8, List.mem_cons, List.not_mem_nil, or_false] at hx
 rcases hx with h | h | h | h | h | h | h | h <;> (rw [h]; exact Nat.mod_lt _ (by omega))
theorem bel_rev {m : Nat} {l : List Nat} (h : bel m l) : bel m l.reverse := fun x hx => h x (List.mem_reverse.1 hx)
theorem tail_bel {e : List Nat} (n : Nat) (h : bel 256 e) : bel 256 (tail e n) := fun x hx => by
 unfold tail at hx
 rcases List.mem_cons.1 hx with h1 | h1
 ·rw [h1]; omega
 ·exact bel_app (bel_rep (by omega)) h x h1
theorem s1msg_bel {b : List Nat} (h : bel 256 b) : bel 256 (s1msg b) := bel_app h (tail_bel _ (bel_rev (le8_bel _)))
def s1end (b : List Nat) : S5 := s1blks ((s1msg b).length / 64) s1I (s1msg b)
theorem s1end_ok (b : List Nat) : (s1end b).ok := s1blks_ok s1I_ok
def s1dig (b : List Nat) : List Nat := (s1end b).bytes
theorem s1dig_len (b : List Nat) : (s1dig b).length = 20 := flatMap_be4_len _
theorem S5.okl {s : S5} (h : s.ok) : bel 4294967296 s.l := fun x hx => by
 simp only [S5.l, List.mem_cons, List.not_mem_nil, or_false] at hx
 rcases hx with e | e | e | e | e <;> rw [e]
 ·exact h.1
 ·exact h.2.1
 ·exact h.2.2.1
 ·exact h.2.2.2.1
 ·exact h.2.2.2.2
section
variable {c46 : List (List Int) → Option (List Int)} {c185 c186 : Int → Option (List Int)} {c187 c188 : Option (List Int)} {c183 c184 : List Int → List Int → Option (List Int)} {c19 : Int → Int → Bool → Option ((List Int) × Int)}
theorem p190_is (F46 : ∀ ll : List (List Int), ll.length ≤ 1000 → ll.flatten.length ≤ 100000 → c46 ll = some ll.flatten) (F185 : ∀ n : Nat, c185 (n : Int) = some (nI (tail (le8 (bits8 n)).reverse n))) (F187 : c187 = some (nI s1I.l))
  (F : ∀ (s : S5) (B : List Nat), s.ok → bel 256 B → B.length = 64 → c183 (nI s.l) (nI B) = some (nI (s1blk s B).l)) (F19 : ∀ x : Nat, c19 (x : Int) 4 false = some (nI (be4 x), 0))
  {ll : List (List Int)} {b : List Nat} (hll : ll.length ≤ 1000) (hfl : ll.flatten = nI b) (hb : bel 256 b) (hbl : b.length ≤ 6000) : p190 c46 c185 c187 c183 c19 100 ll = some (nI (s1dig b)) := by
 have hm := s1msg_len b
 have hz := nz_lt b.length
 have hmod := s1msg_mod b
 unfold p190
 rw [F46 ll hll (by rw [hfl, nI_len]; omega), hfl]
 simp only [nI_len]
 rw [w64 (by omega), F185, F187]
 simp only [nI_len, tail_len _ (show (le8 (bits8 b.length)).reverse.length = 8 from rfl), Nat.mul_one, beq_self_eq_true, show b.length + (nz b.length + 9) ≤ 1099511627776 by omega, decide_true, Bool.and_self, cond_true, show s1I.l.length = 5 from rfl, Nat.zero_add, Nat.le_refl, nI_app, List.length_append, List.drop_zero]
 rw [nI_take, List.nil_append, show List.drop 5 [(0 : Int), (0 : Int), (0 : Int), (0 : Int), (0 : Int)] = ([] : List Int) from rfl, List.append_nil, show List.take (b.length + (nz b.length + 9)) (b ++ tail (le8 (bits8 b.length)).reverse b.length) = s1msg b from List.take_of_length_le (by have := s1msg_len b; unfold s1msg at this; omega)]
 refine (L190_0_is F 100 _ _ ((s1msg b).length / 64) 100 (s1msg b) s1I hmod (by omega) (s1msg_bel hb) s1I_ok (by omega)).trans ?_
 rw [show (decide (5 ≤ (nI (s1blks ((s1msg b).length / 64) s1I (s1msg b)).l).length)) = true from rfl, cond_true, show List.take 5 (nI (s1blks ((s1msg b).length / 64) s1I (s1msg b)).l) = nI (s1end b).l from rfl]
 refine (L190_1_is F19 100 _ (s1end b).l rfl (S5.okl (s1end_ok b)) _ 5 0 100 0 [] (by omega) (by omega) rfl (by omega)).trans ?_
 have hd : ([] ++ List.flatMap be4 (List.drop 0 (s1end b).l)) = s1dig b := rfl
 rw [hd]
 have hDl : (nI (s1dig b)).length = 20 := by rw [nI_len]; exact s1dig_len b
 generalize nI (s1dig b) = D at *
 have hDt : List.take 20 D = D := List.take_of_length_le (by omega)
 simp [hDl, hDt]
theorem p191_is (F186 : ∀ n : Nat, c186 (n : Int) = some (nI (tail (le8 (bits8 n)).reverse n))) (F188 : c188 = some (nI s1I.l))
  (F : ∀ (s : S5) (B : List Nat), s.ok → bel 256 B → B.length = 64 → c184 (nI s.l) (nI B) = some (nI (s1blk s B).l))
  {b : List Nat} (hb : bel 256 b) (hbl : b.length ≤ 6000) : p191 c186 c188 c184 100 (nI b) = some (nI (s1dig b)) := by
 have hm := s1msg_len b
 have hz := nz_lt b.length
 have hmod := s1msg_mod b
 unfold p191
 simp only [nI_len, Nat.mul_one, show b.length ≤ 1099511627776 by omega, decide_true, Bool.and_self, cond_true]
 rw [w64 (by omega), F186, F188]
 simp only [nI_len, tail_len _ (show (le8 (bits8 b.length)).reverse.length = 8 from rfl), beq_self_eq_true, show b.length + (nz b.length + 9) ≤ 1099511627776 by omega, decide_true, Bool.and_self, cond_true, show s1I.l.length = 5 from rfl, Nat.zero_add, Nat.le_refl, nI_app]
 rw [List.nil_append, show List.drop 5 [(0 : Int), (0 : Int), (0 : Int), (0 : Int), (0 : Int)] = ([] : List Int) from rfl, List.append_nil, show b ++ tail (le8 (bits8 b.length)).reverse b.length = s1msg b from rfl, ← hm]
 refine (L191_0_is F _ (s1msg b) ((s1msg b).length / 64) hmod (by omega) (s1msg_bel hb) _ ((s1msg b).length / 64) 0 100 s1I (by omega) (by omega) s1I_ok).trans ?_
 rw [Nat.mul_zero, List.drop_zero]
 refine (L191_2_is _ _ _ _ _ _ _).trans ?_
 have hl : ([IntKind.wrap .u8 (ishr .u32 (((s1blks ((s1msg b).length / 64) s1I (s1msg b)).1 : Nat) : Int) (isub .i64 24 (imul .i64 8 (irem 0 4)))), IntKind.wrap .u8 (ishr .u32 (((s1blks ((s1msg b).length / 64) s1I (s1msg b)).1 : Nat) : Int) (isub .i64 24 (imul .i64 8 (irem 1 4)))), IntKind.wrap .u8 (ishr .u32 (((s1blks ((s1msg b).length / 64) s1I (s1msg b)).1 : Nat) : Int) (isub .i64 24 (imul .i64 8 (irem 2 4)))), IntKind.wrap .u8 (ishr .u32 (((s1blks ((s1msg b).length / 64) s1I (s1msg b)).1 : Nat) : Int) (isub .i64 24 (imul .i64 8 (irem 3 4)))), IntKind.wrap .u8 (ishr .u32 (((s1blks ((s1msg b).length / 64) s1I (s1msg b)).2.1 : Nat) : Int) (isub .i64 24 (imul .i64 8 (irem 4 4)))), IntKind.wrap .u8 (ishr .u32 (((s1blks ((s1msg b).length / 64) s1I (s1msg b)).2.1 : Nat) : Int) (isub .i64 24 (imul .i64 8 (irem 5 4)))), IntKind.wrap .u8 (ishr .u32 (((s1blks ((s1msg b).length / 64) s1I (s1msg b)).2.1 : Nat) : Int) (isub .i64 24 (imul .i64 8 (irem 6 4)))), IntKind.wrap .u8 (ishr .u32 (((s1blks ((s1msg b).length / 64) s1I (s1msg b)).2.1 : Nat) : Int) (isub .i64 24 (imul .i64 8 (irem 7 4)))), IntKind.wrap .u8 (ishr .u32 (((s1blks ((s1msg b).length / 64) s1I (s1msg b)).2.2.1 : Nat) : Int) (isub .i64 24 (imul .i64 8 (irem 8 4)))), IntKind.wrap .u8 (ishr .u32 (((s1blks ((s1msg b).length / 64) s1I (s1msg b)).2.2.1 : Nat) : Int) (isub .i64 24 (imul .i64 8 (irem 9 4)))), IntKind.wrap .u8 (ishr .u32 (((s1blks ((s1msg b).length / 64) s1I (s1msg b)).2.2.1 : Nat) : Int) (isub .i64 24 (imul .i64 8 (irem 10 4)))), IntKind.wrap .u8 (ishr .u32 (((s1blks ((s1msg b).length / 64) s1I (s1msg b)).2.2.1 : Nat) : Int) (isub .i64 24 (imul .i64 8 (irem 11 4)))), IntKind.wrap .u8 (ishr .u32 (((s1blks ((s1msg b).length / 64) s1I (s1msg b)).2.2.2.1 : Nat) : Int) (isub .i64 24 (imul .i64 8 (irem 12 4)))), IntKind.wrap .u8 (ishr .u32 (((s1blks ((s1msg b).length / 64) s1I (s1msg b)).2.2.2.1 : Nat) : Int) (isub .i64 24 (imul .i64 8 (irem 13 4)))), IntKind.wrap .u8 (ishr .u32 (((s1blks ((s1msg b).length / 64) s1I (s1msg b)).2.2.2.1 : Nat) : Int) (isub .i64 24 (imul .i64 8 (irem 14 4)))), IntKind.wrap .u8 (ishr .u32 (((s1blks ((s1msg b).length / 64) s1I (s1msg b)).2.2.2.1 : Nat) : Int) (isub .i64 24 (imul .i64 8 (irem 15 4)))), IntKind.wrap .u8 (ishr .u32 (((s1blks ((s1msg b).length / 64) s1I (s1msg b)).2.2.2.2 : Nat) : Int) (isub .i64 24 (imul .i64 8 (irem 16 4)))), IntKind.wrap .u8 (ishr .u32 (((s1blks ((s1msg b).length / 64) s1I (s1msg b)).2.2.2.2 : Nat) : Int) (isub .i64 24 (imul .i64 8 (irem 17 4)))), IntKind.wrap .u8 (ishr .u32 (((s1blks ((s1msg b).length / 64) s1I (s1msg b)).2.2.2.2 : Nat) : Int) (isub .i64 24 (imul .i64 8 (irem 18 4)))), IntKind.wrap .u8 (ishr .u32 (((s1blks ((s1msg b).length / 64) s1I (s1msg b)).2.2.2.2 : Nat) : Int) (isub .i64 24 (imul .i64 8 (irem 19 4))))] : List Int) = nI (s1dig b) := by
  show _ = nI (s1end b).bytes
  unfold s1end
  generalize s1blks ((s1msg b).length / 64) s1I (s1msg b) = s
  simp only [sh_is _ (show 24 ≤ 32 by omega) (show isub .i64 24 (imul .i64 8 (irem 0 4)) = ((24 : Nat) : Int) from rfl), sh_is _ (show 16 ≤ 32 by omega) (show isub .i64 24 (imul .i64 8 (irem 1 4)) = ((16 : Nat) : Int) from rfl), sh_is _ (show 8 ≤ 32 by omega) (show isub .i64 24 (imul .i64 8 (irem 2 4)) = ((8 : Nat) : Int) from rfl), sh_is _ (show 0 ≤ 32 by omega) (show isub .i64 24 (imul .i64 8 (irem 3 4)) = ((0 : Nat) : Int) from rfl), sh_is _ (show 24 ≤ 32 by omega) (show isub .i64 24 (imul .i64 8 (irem 4 4)) = ((24 : Nat) : Int) from rfl), sh_is _ (show 16 ≤ 32 by omega) (show isub .i64 24 (imul .i64 8 (irem 5 4)) = ((16 : Nat) : Int) from rfl), sh_is _ (show 8 ≤ 32 by omega) (show isub .i64 24 (imul .i64 8 (irem 6 4)) = ((8 : Nat) : Int) from rfl), sh_is _ (show 0 ≤ 32 by omega) (show isub .i64 24 (imul .i64 8 (irem 7 4)) = ((0 : Nat) : Int) from rfl), sh_is _ (show 24 ≤ 32 by omega) (show isub .i64 24 (imul .i64 8 (irem 8 4)) = ((24 : Nat) : Int) from rfl), sh_is _ (show 16 ≤ 32 by omega) (show isub .i64 24 (imul .i64 8 (irem 9 4)) = ((16 : Nat) : Int) from rfl), sh_is _ (show 8 ≤ 32 by omega) (show isub .i64 24 (imul .i64 8 (irem 10 4)) = ((8 : Nat) : Int) from rfl), sh_is _ (show 0 ≤ 32 by omega) (show isub .i64 24 (imul .i64 8 (irem 11 4)) = ((0 : Nat) : Int) from rfl), sh_is _ (show 24 ≤ 32 by omega) (show isub .i64 24 (imul .i64 8 (irem 12 4)) = ((24 : Nat) : Int) from rfl), sh_is _ (show 16 ≤ 32 by omega) (show isub .i64 24 (imul .i64 8 (irem 13 4)) = ((16 : Nat) : Int) from rfl), sh_is _ (show 8 ≤ 32 by omega) (show isub .i64 24 (imul .i64 8 (irem 14 4)) = ((8 : Nat) : Int) from rfl), sh_is _ (show 0 ≤ 32 by omega) (show isub .i64 24 (imul .i64 8 (irem 15 4)) = ((0 : Nat) : Int) from rfl), sh_is _ (show 24 ≤ 32 by omega) (show isub .i64 24 (imul .i64 8 (irem 16 4)) = ((24 : Nat) : Int) from rfl), sh_is _ (show 16 ≤ 32 by omega) (show isub .i64 24 (imul .i64 8 (irem 17 4)) = ((16 : Nat) : Int) from rfl), sh_is _ (show 8 ≤ 32 by omega) (show isub .i64 24 (imul .i64 8 (irem 18 4)) = ((8 : Nat) : Int) from rfl), sh_is _ (show 0 ≤ 32 by omega) (show isub .i64 24 (imul .i64 8 (irem 19 4)) = ((0 : Nat) : Int) from rfl), Nat.pow_zero, Nat.div_one]
  rfl
 have hfin := row_fin (k := 20) (y := [(0 : Int), (0 : Int), (0 : Int), (0 : Int), (0 : Int), (0 : Int), (0 : Int), (0 : Int), (0 : Int), (0 : Int), (0 : Int), (0 : Int), (0 : Int), (0 : Int), (0 : Int), (0 : Int), (0 : Int), (0 : Int), (0 : Int), (0 : Int)]) (z := nI (s1dig b)) rfl (by rw [nI_len]; exact s1dig_len b)
 rw [← hl] at hfin
 rw [← hl]
 exact hfin
end
def h190 (ll : List (List Int)) := p190 f1 h185 h187 h183 h19 100 ll
theorem E190 : EntOK FT XT 190 (en190 h190) := ok190 f1 h185 h187 h183 h19 E46 E185 E187 E183 E19 fun _ _ h => ⟨100, h⟩
theorem h190_is {ll : List (List Int)} {b : List Nat} (hll : ll.length ≤ 1000) (hfl : ll.flatten = nI b) (hb : bel 256 b) (hbl : b.length ≤ 6000) : h190 ll = some (nI (s1dig b)) :=
 p190_is (fun ll h1 h2 => f1_is (by omega) (by omega)) h185_is h187_is (fun s B h1 h2 h3 => h183_is h1 h2 h3) put_be4 hll hfl hb hbl
def h191 (b : List Int) := p191 h186 h188 h184 100 b
theorem E191 : EntOK FT XT 191 (en191 h191) := ok191 h186 h188 h184 E186 E188 E184 fun _ _ h => ⟨100, h⟩
theorem h191_is {b : List Nat} (hb : bel 256 b) (hbl : b.length ≤ 6000) : h191 (nI b) = some (nI (s1dig b)) :=
 p191_is h186_is h188_is (fun s B h1 h2 h3 => h184_is h1 h2 h3) hb hbl
theorem wf_bel {k : IntKind} (hk : k.signed = false) {l : List Int} (h : ∀ x ∈ l, (Lit.int k x).wf = true) : ∃ r : List Nat, l = nI r ∧ bel (2 ^ k.bits) r := by
 obtain ⟨r, rfl⟩ := nI_of (l := l) (fun x hx => (wf_u hk (h x hx)).1)
 refine ⟨r, rfl, fun x hx => ?_⟩
 have := (wf_u hk (h (x : Int) (List.mem_map.2 ⟨x, hx, rfl⟩))).2
 exact_mod_cast this
end Go.Proofs.YtdlmhclopdkhcaaDoorE
