/- MD4: the laws Md4Blocks, Md4Is answer true. -/
import Derived.Test.YtdlmhclopdkhcaaDoorEvzM2
namespace Go.Proofs.YtdlmhclopdkhcaaDoorE
open Go
set_option linter.unusedSimpArgs false
set_option linter.unusedVariables false
theorem p176_is {c19 : Int → Int → Bool → Option ((List Int) × Int)} (F : ∀ m : Nat, c19 (m : Int) 8 true = some (nI (le8 m), 0)) {N n : Nat} : p176 c19 N (n : Int) = some (nI (tail (le8 (bits8 n)) n)) := by
 have h8 : imul .u64 (n : Int) 8 = ((bits8 n : Nat) : Int) := by
  have := mul64 n 8
  rw [Nat.mul_comm] at this
  exact this
 have hz := nz_lt n
 unfold p176
 rw [zc_is n, h8, F]
 have hl : (le8 (bits8 n)).length = 8 := rfl
 unfold tail
 generalize (le8 (bits8 n)) = e at hl ⊢
 generalize nz n = z at hz ⊢
 have hrep : (List.replicate z (0 : Int)) = nI (List.replicate z 0) := nI_rep z 0
 rw [Int.toNat_natCast, hrep]
 have hpre : ([128] : List Int) ++ nI (List.replicate z 0) = nI (128 :: List.replicate z 0) := rfl
 have hpl : (nI (128 :: List.replicate z 0)).length = 1 + z := by simp [nI_len]; omega
 have htot : nI (128 :: List.replicate z 0) ++ nI e = nI (128 :: (List.replicate z 0 ++ e)) := by rw [nI_app]; rfl
 have htl : (nI (128 :: (List.replicate z 0 ++ e))).length = 1 + z + 8 := by simp [nI_len, hl]; omega
 have hzl : (nI (List.replicate z 0)).length = z := by simp [nI_len]
 simp only [show (0 : Int) ≤ ((z : Nat) : Int) by omega, show ((z : Nat) : Int) * ((1 : Nat) : Int) ≤ 1099511627776 by omega, show ((z : Nat) : Int) ≤ 1099511627776 by omega, decide_true, Bool.and_self, cond_true, hzl, Nat.mul_one, beq_self_eq_true, hpre, hpl, nI_len, hl, htot, htl]
 rcases Nat.eq_zero_or_pos z with h0 | hp
 ·subst h0
  simp only [show ¬ (1 < 1 + 0) by omega, decide_false, cond_false, show 1 + 0 ≤ 1 by omega, decide_true, cond_true, show 1 < 1 + 0 + 8 by omega, show 1 + 0 + 8 ≤ 1099511627776 by omega, Bool.and_self]
  have hd : List.drop (1 + 0) [(128 : Int)] = [] := rfl
  rw [hd, List.append_nil, hpl]
  have ht : List.take (1 + 0) (List.drop 0 (nI (128 :: List.replicate 0 0))) = nI (128 :: List.replicate 0 0) := rfl
  rw [ht, htot, htl]
  simp only [Nat.zero_add, Nat.le_refl, decide_true, cond_true, List.drop_zero]
  rw [List.take_of_length_le (by rw [htl]; exact Nat.le_refl _)]
 ·simp only [show 1 < 1 + z by omega, decide_true, cond_true, show 1 + z ≤ 1099511627776 by omega, show 1 + z + 8 ≤ 1099511627776 by omega, Bool.and_self, Nat.zero_add, Nat.le_refl, List.drop_zero]
  rw [List.take_of_length_le (by rw [htl]; exact Nat.le_refl _)]
def h176 (n : Int) := p176 h19 0 n
theorem E176 : EntOK FT XT 176 (en176 h176) := ok176 h19 E19 fun _ _ h => ⟨0, h⟩
theorem h176_is (n : Nat) : h176 (n : Int) = some (nI (tail (le8 (bits8 n)) n)) := p176_is fun m => put_le8 m
def m4I : S4 := ⟨1732584193, 4023233417, 2562383102, 271733878⟩
theorem m4I_ok : m4I.ok := ⟨by decide, by decide, by decide, by decide⟩
def h178 := p178 0
theorem E178 : EntOK FT XT 178 (en178 h178) := ok178 fun _ h => ⟨0, h⟩
theorem h178_is : h178 = some (nI m4I.l) := rfl
theorem h179_is : h179 = some (nI m4I.l) := rfl
/-- bytes, and what is put behind -/
def m4msg (b : List Nat) : List Nat := b ++ tail (le8 (bits8 b.length)) b.length
theorem m4msg_len (b : List Nat) : (m4msg b).length = b.length + (nz b.length + 9) := by
 unfold m4msg; rw [List.length_append, tail_len _ rfl]
theorem m4msg_mod (b : List Nat) : (m4msg b).length = 64 * ((m4msg b).length / 64) := by
 have := nz_mod b.length
 have := m4msg_len b
 omega
theorem m4msg_bel {b : List Nat} (h : bel 256 b) : bel 256 (m4msg b) := bel_app h (tail_bel _ (le8_bel _))
def m4blks : Nat → S4 → List Nat → S4
 | 0, s, _ => s
 | n + 1, s, l => m4blks n (m4blk s (l.take 64)) (l.drop 64)
def le4 (n : Nat) : List Nat := [n % 256, n / 2 ^ 8 % 256, n / 2 ^ 16 % 256, n / 2 ^ 24 % 256]
def S4.bytes (s : S4) : List Nat := s.l.flatMap le4
theorem flatMap_le4_len : ∀ l : List Nat, (l.flatMap le4).length = 4 * l.length
 | [] => rfl
 | x :: l => by rw [List.flatMap_cons, List.length_append, flatMap_le4_len l, List.length_cons]; show 4 + _ = _; omega
theorem s4bytes_len (s : S4) : s.bytes.length = 16 := by rw [S4.bytes, flatMap_le4_len, s4l_len]
section
variable {c46 : List (List Int) → Option (List Int)} {c176 c177 : Int → Option (List Int)} {c178 c179 : Option (List Int)} {c174 c175 : List Int → List Int → Option (List Int)}
theorem L181_0_is (F : ∀ (s : S4) (B : List Nat), s.ok → bel 256 B → B.length = 64 → c174 (nI s.l) (nI B) = some (nI (m4blk s B).l)) (N : Nat) (q : List Int → List Int → Option (List Int)) (v7 : List Int) :
  ∀ (n fuel : Nat) (l : List Nat) (s : S4), l.length = 64 * n → n < fuel → bel 256 l → s.ok → n < 2 ^ 40 → L181_0 c46 c176 c178 c174 N q fuel (nI l) v7 (nI s.l) = q v7 (nI (m4blks n s l).l) := by
 intro n
 induction n with
 | zero =>
  intro fuel l s hl hf hb hs h40
  obtain ⟨m, rfl⟩ : ∃ m, fuel = m + 1 := ⟨fuel - 1, by omega⟩
  obtain rfl : l = [] := List.length_eq_zero_iff.1 (by omega)
  rw [m4blks]
  rfl
 | succ n ih =>
  intro fuel l s hl hf hb hs h40
  obtain ⟨m, rfl⟩ : ∃ m, fuel = m + 1 := ⟨fuel - 1, by omega⟩
  have h64 : List.take 64 (List.drop 0 (List.take 64 (nI l))) = nI (l.take 64) := by rw [List.drop_zero, List.take_take, Nat.min_self, nI_take]
  have htl : (List.take 64 (nI l)).length = 64 := by rw [List.length_take, nI_len]; omega
  have key := ih m (l.drop 64) (m4blk s (l.take 64)) (by rw [List.length_drop]; omega) (by omega) (bel_drop hb) (m4blk_ok _ _) (by omega)
  have hc := F s (l.take 64) hs (bel_take hb) (by rw [List.length_take]; omega)
  rw [m4blks]
  generalize m4blk s (l.take 64) = t at *
  simp only [L181_0, nI_len, show ((l.length : Nat) : Int) > 0 by omega, decide_true, cond_true, s4l_len, Nat.le_refl, show (64 : Int) ≤ ((l.length : Nat) : Int) by omega, htl, h4, h64, hc, beq_self_eq_true, Nat.zero_add, take0, List.nil_append]
  rw [d4, List.append_nil, nI_drop]
  exact key
theorem L182_1_is (N : Nat) (q : Nat → Int → List Int → List Int → List Int → List Int → Option (List Int)) (all : List Nat) (len : Nat) (hlen : len = all.length) (at_ : Nat) (hat : at_ + 64 ≤ all.length) (h40 : all.length < 2 ^ 40) (v11 v13 : List Int) :
  ∀ (d k fuel : Nat) (blk : List Nat), k + d = 64 → d < fuel → blk.length = 64 → blk.take k = (all.drop at_).take k → L182_1 c177 c179 c175 N q fuel len (at_ : Int) (k : Int) v11 (nI all) v13 (nI blk) = q len (at_ : Int) v11 (nI all) v13 (nI ((all.drop at_).take 64)) := by
 intro d
 induction d with
 | zero =>
  intro k fuel blk hd hf hl ht
  obtain ⟨m, rfl⟩ : ∃ m, fuel = m + 1 := ⟨fuel - 1, by omega⟩
  obtain rfl : k = 64 := by omega
  rw [List.take_of_length_le (by omega)] at ht
  simp only [L182_1, show ¬ (((64 : Nat) : Int) < 64) by omega, decide_false, cond_false, ← ht]
 | succ d ih =>
  intro k fuel blk hd hf hl ht
  obtain ⟨m, rfl⟩ : ∃ m, fuel = m + 1 := ⟨fuel - 1, by omega⟩
  have ha : iadd .i64 (at_ : Int) (k : Int) = ((at_ + k : Nat) : Int) := addn (by omega)
  have hg := getn (l := all) (i := at_ + k) (by omega)
  have key := ih (k + 1) m (blk.set k (gt all (at_ + k))) (by omega) (by omega) (by rw [List.length_set]; exact hl) (by
   rw [List.take_add_one, List.getElem?_set_self (by omega), List.take_set_of_le (Nat.le_refl k), ht, List.take_add_one, List.getElem?_drop, gt, List.getD_eq_getElem?_getD, List.getElem?_eq_getElem (show at_ + k < all.length by omega)]; rfl)
  simp only [L182_1, show (k : Int) < 64 by omega, decide_true, cond_true, ha, show (0 : Int) ≤ ((at_ + k : Nat) : Int) by omega, show ((at_ + k : Nat) : Int) < ((len : Nat) : Int) by omega, Bool.and_self, Int.toNat_natCast, Nat.mul_one, Nat.zero_add, hg, show (0 : Int) ≤ (k : Int) by omega, nI_len, show k < blk.length by omega]
  rw [nI_set, up1 (by omega)]
  exact key
theorem L182_0_is (F : ∀ (s : S4) (B : List Nat), s.ok → bel 256 B → B.length = 64 → c175 (nI s.l) (nI B) = some (nI (m4blk s B).l)) (q : List Int → List Int → Option (List Int)) (all : List Nat) (K : Nat) (hK : all.length = 64 * K) (h40 : all.length < 2 ^ 40) (hb : bel 256 all) (v5 : List Int) :
  ∀ (n k fuel : Nat) (s : S4), k + n = K → n < fuel → s.ok → L182_0 c177 c179 c175 100 q fuel all.length ((64 * k : Nat) : Int) v5 (nI all) (nI s.l) = q v5 (nI (m4blks n s (all.drop (64 * k))).l) := by
 intro n
 induction n with
 | zero =>
  intro k fuel s hk hf hs
  obtain ⟨m, rfl⟩ : ∃ m, fuel = m + 1 := ⟨fuel - 1, by omega⟩
  simp only [L182_0, show ¬ (((64 * k : Nat) : Int) < ((all.length : Nat) : Int)) by omega, decide_false, cond_false]
  rw [m4blks]
 | succ n ih =>
  intro k fuel s hk hf hs
  obtain ⟨m, rfl⟩ : ∃ m, fuel = m + 1 := ⟨fuel - 1, by omega⟩
  have key := ih (k + 1) m (m4blk s ((all.drop (64 * k)).take 64)) (by omega) (by omega) (m4blk_ok _ _)
  have e64 : iadd .i64 ((64 * k : Nat) : Int) 64 = ((64 * (k + 1) : Nat) : Int) := by rw [show (64 : Int) = ((64 : Nat) : Int) from rfl, addn (by omega)]; congr 1
  have hbl : ((all.drop (64 * k)).take 64).length = 64 := by rw [List.length_take, List.length_drop]; omega
  have h64 : List.take 64 (List.drop 0 (nI ((all.drop (64 * k)).take 64))) = nI ((all.drop (64 * k)).take 64) := by rw [List.drop_zero, List.take_of_length_le (by rw [nI_len]; omega)]
  have hc := F s _ hs (bel_take (bel_drop hb)) hbl
  rw [m4blks, List.drop_drop, show 64 * k + 64 = 64 * (k + 1) by omega]
  generalize m4blk s ((all.drop (64 * k)).take 64) = t at *
  simp only [L182_0, show ((64 * k : Nat) : Int) < ((all.length : Nat) : Int) by omega, decide_true, cond_true]
  rw [show ([(0 : Int), (0 : Int), (0 : Int), (0 : Int), (0 : Int), (0 : Int), (0 : Int), (0 : Int), (0 : Int), (0 : Int), (0 : Int), (0 : Int), (0 : Int), (0 : Int), (0 : Int), (0 : Int), (0 : Int), (0 : Int), (0 : Int), (0 : Int), (0 : Int), (0 : Int), (0 : Int), (0 : Int), (0 : Int), (0 : Int), (0 : Int), (0 : Int), (0 : Int), (0 : Int), (0 : Int), (0 : Int), (0 : Int), (0 : Int), (0 : Int), (0 : Int), (0 : Int), (0 : Int), (0 : Int), (0 : Int), (0 : Int), (0 : Int), (0 : Int), (0 : Int), (0 : Int), (0 : Int), (0 : Int), (0 : Int), (0 : Int), (0 : Int), (0 : Int), (0 : Int), (0 : Int), (0 : Int), (0 : Int), (0 : Int), (0 : Int), (0 : Int), (0 : Int), (0 : Int), (0 : Int), (0 : Int), (0 : Int), (0 : Int)] : List Int) = nI (List.replicate 64 0) from rfl]
  refine (L182_1_is 100 _ all all.length rfl (64 * k) (by omega) h40 v5 (nI s.l) 64 0 100 (List.replicate 64 0) (by omega) (by omega) (by simp) (by simp)).trans ?_
  simp only [nI_len, s4l_len, hbl, Nat.le_refl, decide_true, cond_true, h4, h64, hc, beq_self_eq_true, Nat.zero_add, take0, List.nil_append, e64]
  rw [d4, List.append_nil, key]
theorem L181_1_is (q : List Int → List Int → Option (List Int)) (v26 : List Int) (s0 s1 s2 s3 : Int) :
  L181_1 c46 c176 c178 c174 100 q 100 0 v26 [s0, s1, s2, s3] [(0 : Int), (0 : Int), (0 : Int), (0 : Int), (0 : Int), (0 : Int), (0 : Int), (0 : Int), (0 : Int), (0 : Int), (0 : Int), (0 : Int), (0 : Int), (0 : Int), (0 : Int), (0 : Int)] = q v26 [IntKind.wrap .u8 (ishr .u32 s0 (imul .i64 8 (irem 0 4))), IntKind.wrap .u8 (ishr .u32 s0 (imul .i64 8 (irem 1 4))), IntKind.wrap .u8 (ishr .u32 s0 (imul .i64 8 (irem 2 4))), IntKind.wrap .u8 (ishr .u32 s0 (imul .i64 8 (irem 3 4))), IntKind.wrap .u8 (ishr .u32 s1 (imul .i64 8 (irem 4 4))), IntKind.wrap .u8 (ishr .u32 s1 (imul .i64 8 (irem 5 4))), IntKind.wrap .u8 (ishr .u32 s1 (imul .i64 8 (irem 6 4))), IntKind.wrap .u8 (ishr .u32 s1 (imul .i64 8 (irem 7 4))), IntKind.wrap .u8 (ishr .u32 s2 (imul .i64 8 (irem 8 4))), IntKind.wrap .u8 (ishr .u32 s2 (imul .i64 8 (irem 9 4))), IntKind.wrap .u8 (ishr .u32 s2 (imul .i64 8 (irem 10 4))), IntKind.wrap .u8 (ishr .u32 s2 (imul .i64 8 (irem 11 4))), IntKind.wrap .u8 (ishr .u32 s3 (imul .i64 8 (irem 12 4))), IntKind.wrap .u8 (ishr .u32 s3 (imul .i64 8 (irem 13 4))), IntKind.wrap .u8 (ishr .u32 s3 (imul .i64 8 (irem 14 4))), IntKind.wrap .u8 (ishr .u32 s3 (imul .i64 8 (irem 15 4)))] := by kernel_rfl
theorem L182_2_is (q : List Int → List Int → Option (List Int)) (v26 : List Int) (s0 s1 s2 s3 : Int) :
  L182_2 c177 c179 c175 100 q 100 0 v26 [s0, s1, s2, s3] [(0 : Int), (0 : Int), (0 : Int), (0 : Int), (0 : Int), (0 : Int), (0 : Int), (0 : Int), (0 : Int), (0 : Int), (0 : Int), (0 : Int), (0 : Int), (0 : Int), (0 : Int), (0 : Int)] = q v26 [IntKind.wrap .u8 (ishr .u32 s0 (imul .i64 8 (irem 0 4))), IntKind.wrap .u8 (ishr .u32 s0 (imul .i64 8 (irem 1 4))), IntKind.wrap .u8 (ishr .u32 s0 (imul .i64 8 (irem 2 4))), IntKind.wrap .u8 (ishr .u32 s0 (imul .i64 8 (irem 3 4))), IntKind.wrap .u8 (ishr .u32 s1 (imul .i64 8 (irem 4 4))), IntKind.wrap .u8 (ishr .u32 s1 (imul .i64 8 (irem 5 4))), IntKind.wrap .u8 (ishr .u32 s1 (imul .i64 8 (irem 6 4))), IntKind.wrap .u8 (ishr .u32 s1 (imul .i64 8 (irem 7 4))), IntKind.wrap .u8 (ishr .u32 s2 (imul .i64 8 (irem 8 4))), IntKind.wrap .u8 (ishr .u32 s2 (imul .i64 8 (irem 9 4))), IntKind.wrap .u8 (ishr .u32 s2 (imul .i64 8 (irem 10 4))), IntKind.wrap .u8 (ishr .u32 s2 (imul .i64 8 (irem 11 4))), IntKind.wrap .u8 (ishr .u32 s3 (imul .i64 8 (irem 12 4))), IntKind.wrap .u8 (ishr .u32 s3 (imul .i64 8 (irem 13 4))), IntKind.wrap .u8 (ishr .u32 s3 (imul .i64 8 (irem 14 4))), IntKind.wrap .u8 (ishr .u32 s3 (imul .i64 8 (irem 15 4)))] := by kernel_rfl
theorem m4_bytes (s : S4) : [IntKind.wrap .u8 (ishr .u32 ((s.a : Nat) : Int) (imul .i64 8 (irem 0 4))), IntKind.wrap .u8 (ishr .u32 ((s.a : Nat) : Int) (imul .i64 8 (irem 1 4))), IntKind.wrap .u8 (ishr .u32 ((s.a : Nat) : Int) (imul .i64 8 (irem 2 4))), IntKind.wrap .u8 (ishr .u32 ((s.a : Nat) : Int) (imul .i64 8 (irem 3 4))), IntKind.wrap .u8 (ishr .u32 ((s.b : Nat) : Int) (imul .i64 8 (irem 4 4))), IntKind.wrap .u8 (ishr .u32 ((s.b : Nat) : Int) (imul .i64 8 (irem 5 4))), IntKind.wrap .u8 (ishr .u32 ((s.b : Nat) : Int) (imul .i64 8 (irem 6 4))), IntKind.wrap .u8 (ishr .u32 ((s.b : Nat) : Int) (imul .i64 8 (irem 7 4))), IntKind.wrap .u8 (ishr .u32 ((s.c : Nat) : Int) (imul .i64 8 (irem 8 4))), IntKind.wrap .u8 (ishr .u32 ((s.c : Nat) : Int) (imul .i64 8 (irem 9 4))), IntKind.wrap .u8 (ishr .u32 ((s.c : Nat) : Int) (imul .i64 8 (irem 10 4))), IntKind.wrap .u8 (ishr .u32 ((s.c : Nat) : Int) (imul .i64 8 (irem 11 4))), IntKind.wrap .u8 (ishr .u32 ((s.d : Nat) : Int) (imul .i64 8 (irem 12 4))), IntKind.wrap .u8 (ishr .u32 ((s.d : Nat) : Int) (imul .i64 8 (irem 13 4))), IntKind.wrap .u8 (ishr .u32 ((s.d : Nat) : Int) (imul .i64 8 (irem 14 4))), IntKind.wrap .u8 (ishr .u32 ((s.d : Nat) : Int) (imul .i64 8 (irem 15 4)))] = nI s.bytes := by
 simp only [sh_is _ (show 0 ≤ 32 by omega) (show (imul .i64 8 (irem 0 4)) = ((0 : Nat) : Int) from rfl), sh_is _ (show 8 ≤ 32 by omega) (show (imul .i64 8 (irem 1 4)) = ((8 : Nat) : Int) from rfl), sh_is _ (show 16 ≤ 32 by omega) (show (imul .i64 8 (irem 2 4)) = ((16 : Nat) : Int) from rfl), sh_is _ (show 24 ≤ 32 by omega) (show (imul .i64 8 (irem 3 4)) = ((24 : Nat) : Int) from rfl), sh_is _ (show 0 ≤ 32 by omega) (show (imul .i64 8 (irem 4 4)) = ((0 : Nat) : Int) from rfl), sh_is _ (show 8 ≤ 32 by omega) (show (imul .i64 8 (irem 5 4)) = ((8 : Nat) : Int) from rfl), sh_is _ (show 16 ≤ 32 by omega) (show (imul .i64 8 (irem 6 4)) = ((16 : Nat) : Int) from rfl), sh_is _ (show 24 ≤ 32 by omega) (show (imul .i64 8 (irem 7 4)) = ((24 : Nat) : Int) from rfl), sh_is _ (show 0 ≤ 32 by omega) (show (imul .i64 8 (irem 8 4)) = ((0 : Nat) : Int) from rfl), sh_is _ (show 8 ≤ 32 by omega) (show (imul .i64 8 (irem 9 4)) = ((8 : Nat) : Int) from rfl), sh_is _ (show 16 ≤ 32 by omega) (show (imul .i64 8 (irem 10 4)) = ((16 : Nat) : Int) from rfl), sh_is _ (show 24 ≤ 32 by omega) (show (imul .i64 8 (irem 11 4)) = ((24 : Nat) : Int) from rfl), sh_is _ (show 0 ≤ 32 by omega) (show (imul .i64 8 (irem 12 4)) = ((0 : Nat) : Int) from rfl), sh_is _ (show 8 ≤ 32 by omega) (show (imul .i64 8 (irem 13 4)) = ((8 : Nat) : Int) from rfl), sh_is _ (show 16 ≤ 32 by omega) (show (imul .i64 8 (irem 14 4)) = ((16 : Nat) : Int) from rfl), sh_is _ (show 24 ≤ 32 by omega) (show (imul .i64 8 (irem 15 4)) = ((24 : Nat) : Int) from rfl), Nat.pow_zero, Nat.div_one]
 rfl
end
def m4end (b : List Nat) : S4 := m4blks ((m4msg b).length / 64) m4I (m4msg b)
def m4dig (b : List Nat) : List Nat := (m4end b).bytes
theorem m4dig_len (b : List Nat) : (m4dig b).length = 16 := by rw [m4dig, s4bytes_len]
section
variable {c46 : List (List Int) → Option (List Int)} {c176 c177 : Int → Option (List Int)} {c178 c179 : Option (List Int)} {c174 c175 : List Int → List Int → Option (List Int)}
theorem p181_is (F46 : ∀ ll : List (List Int), ll.length ≤ 1000 → ll.flatten.length ≤ 100000 → c46 ll = some ll.flatten) (F176 : ∀ n : Nat, c176 (n : Int) = some (nI (tail (le8 (bits8 n)) n))) (F178 : c178 = some (nI m4I.l))
  (F : ∀ (s : S4) (B : List Nat), s.ok → bel 256 B → B.length = 64 → c174 (nI s.l) (nI B) = some (nI (m4blk s B).l))
  {ll : List (List Int)} {b : List Nat} (hll : ll.length ≤ 1000) (hfl : ll.flatten = nI b) (hb : bel 256 b) (hbl : b.length ≤ 6000) : p181 c46 c176 c178 c174 100 ll = some (nI (m4dig b)) := by
 have hm := m4msg_len b
 have hz := nz_lt b.length
 have hmod := m4msg_mod b
 unfold p181
 rw [F46 ll hll (by rw [hfl, nI_len]; omega), hfl]
 simp only [nI_len]
 rw [w64 (by omega), F176, F178]
 simp only [nI_len, tail_len _ (le8_len (bits8 b.length)), Nat.mul_one, beq_self_eq_true, show b.length + (nz b.length + 9) ≤ 1099511627776 by omega, decide_true, Bool.and_self, cond_true, s4l_len, Nat.zero_add, Nat.le_refl, nI_app, List.length_append, List.drop_zero]
 rw [nI_take, List.nil_append, show List.drop 4 [(0 : Int), (0 : Int), (0 : Int), (0 : Int)] = ([] : List Int) from rfl, List.append_nil, show List.take (b.length + (nz b.length + 9)) (b ++ tail (le8 (bits8 b.length)) b.length) = m4msg b from List.take_of_length_le (by have := m4msg_len b; unfold m4msg at this; omega)]
 refine (L181_0_is F 100 _ _ ((m4msg b).length / 64) 100 (m4msg b) m4I hmod (by omega) (m4msg_bel hb) m4I_ok (by omega)).trans ?_
 have hend : m4blks ((m4msg b).length / 64) m4I (m4msg b) = m4end b := by rw [m4end]
 rw [hend, m4dig, ← m4_bytes]
 generalize m4end b = t
 rw [nI4 t]
 refine (L181_1_is _ _ _ _ _ _).trans ?_
 rw [m4_bytes t]
 have hDl : (nI t.bytes).length = 16 := by rw [nI_len, s4bytes_len]
 generalize nI t.bytes = D at *
 have hDt : List.take 16 D = D := List.take_of_length_le (by omega)
 simp [hDl, hDt]
theorem p182_is (F177 : ∀ n : Nat, c177 (n : Int) = some (nI (tail (le8 (bits8 n)) n))) (F179 : c179 = some (nI m4I.l))
  (F : ∀ (s : S4) (B : List Nat), s.ok → bel 256 B → B.length = 64 → c175 (nI s.l) (nI B) = some (nI (m4blk s B).l))
  {b : List Nat} (hb : bel 256 b) (hbl : b.length ≤ 6000) : p182 c177 c179 c175 100 (nI b) = some (nI (m4dig b)) := by
 have hm := m4msg_len b
 have hz := nz_lt b.length
 have hmod := m4msg_mod b
 unfold p182
 simp only [nI_len, Nat.mul_one, show b.length ≤ 1099511627776 by omega, decide_true, Bool.and_self, cond_true]
 rw [w64 (by omega), F177, F179]
 simp only [nI_len, tail_len _ (le8_len (bits8 b.length)), beq_self_eq_true, show b.length + (nz b.length + 9) ≤ 1099511627776 by omega, decide_true, Bool.and_self, cond_true, s4l_len, Nat.zero_add, Nat.le_refl, nI_app]
 rw [List.nil_append, show List.drop 4 [(0 : Int), (0 : Int), (0 : Int), (0 : Int)] = ([] : List Int) from rfl, List.append_nil, show b ++ tail (le8 (bits8 b.length)) b.length = m4msg b from rfl, ← hm]
 refine (L182_0_is F _ (m4msg b) ((m4msg b).length / 64) hmod (by omega) (m4msg_bel hb) _ ((m4msg b).length / 64) 0 100 m4I (by omega) (by omega) m4I_ok).trans ?_
 rw [Nat.mul_zero, List.drop_zero]
 have hend : m4blks ((m4msg b).length / 64) m4I (m4msg b) = m4end b := by rw [m4end]
 rw [hend, m4dig, ← m4_bytes]
 generalize m4end b = t
 rw [nI4 t]
 refine (L182_2_is _ _ _ _ _ _).trans ?_
 rw [m4_bytes t]
 exact row_fin (k := 16) rfl (by rw [nI_len, s4bytes_len])
end
def h181 (ll : List (List Int)) := p181 f1 h176 h178 h174 100 ll
theorem E181 : EntOK FT XT 181 (en181 h181) := ok181 f1 h176 h178 h174 E46 E176 E178 E174 fun _ _ h => ⟨100, h⟩
theorem h181_is {ll : List (List Int)} {b : List Nat} (hll : ll.length ≤ 1000) (hfl : ll.flatten = nI b) (hb : bel 256 b) (hbl : b.length ≤ 6000) : h181 ll = some (nI (m4dig b)) :=
 p181_is (fun ll h1 h2 => f1_is (by omega) (by omega)) h176_is h178_is (fun s B h1 h2 h3 => h174_is h1 h2 h3) hll hfl hb hbl
def h182 (b : List Int) := p182 h177 h179 h175 100 b
theorem E182 : EntOK FT XT 182 (en182 h182) := ok182 h177 h179 h175 E177 E179 E175 fun _ _ h => ⟨100, h⟩
theorem h182_is {b : List Nat} (hb : bel 256 b) (hbl : b.length ≤ 6000) : h182 (nI b) = some (nI (m4dig b)) :=
 p182_is h177_is h179_is (fun s B h1 h2 h3 => h175_is h1 h2 h3) hb hbl
end Go.Proofs.YtdlmhclopdkhcaaDoorE
