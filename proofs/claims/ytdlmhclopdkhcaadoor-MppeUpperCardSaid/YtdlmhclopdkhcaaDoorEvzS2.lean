/- SHA-1: the program's digest is the reference's. -/
import Derived.Test.YtdlmhclopdkhcaaDoorEvzS1
namespace Go.Proofs.YtdlmhclopdkhcaaDoorE
open Go
set_option linter.unusedSimpArgs false
set_option linter.unusedVariables false
def z80 : List Nat := List.replicate 80 0
theorem bel_rep {m n : Nat} (hm : 0 < m) : bel m (List.replicate n 0) := fun x hx => by rw [List.eq_of_mem_replicate hx]; exact hm
def s1W (B : List Nat) : List Nat := s1sp B 80 0 z80
theorem s1W_len (B : List Nat) : (s1W B).length = 80 := by unfold s1W; rw [s1sp_len]; rfl
def s1add (s t : S5) : S5 := ((t.1 + s.1) % 4294967296, (t.2.1 + s.2.1) % 4294967296, (t.2.2.1 + s.2.2.1) % 4294967296, (t.2.2.2.1 + s.2.2.2.1) % 4294967296, (t.2.2.2.2 + s.2.2.2.2) % 4294967296)
def s1blk (s : S5) (B : List Nat) : S5 := s1add s (s1run (s1W B) 80 0 s)
theorem s1blk_ok (s : S5) (B : List Nat) : (s1blk s B).ok := ⟨mod32 _, mod32 _, mod32 _, mod32 _, mod32 _⟩
section
variable {c199 : List Int → Option (List Int)} {c200 : Option (List Int)} {c195 c202 : Int → Int → Option Int} {c201 c203 : Int → Int → Int → Int → Option Int} {c21 : List Int → Bool → Option (Int × Int)}
theorem L183_1_is (q : List Int → List Int → Option (List Int)) (v28 : List Int) (s0 s1 s2 s3 s4 t0 t1 t2 t3 t4 : Int) :
  L183_1 c199 c200 c195 c201 100 q 100 0 [s0, s1, s2, s3, s4] v28 [t0, t1, t2, t3, t4] = q v28 [iadd .u32 t0 s0, iadd .u32 t1 s1, iadd .u32 t2 s2, iadd .u32 t3 s3, iadd .u32 t4 s4] := by kernel_rfl
theorem L184_2_is (q : List Int → List Int → Option (List Int)) (v28 : List Int) (s0 s1 s2 s3 s4 t0 t1 t2 t3 t4 : Int) :
  L184_2 c202 c203 100 q 100 0 [s0, s1, s2, s3, s4] v28 [t0, t1, t2, t3, t4] = q v28 [iadd .u32 t0 s0, iadd .u32 t1 s1, iadd .u32 t2 s2, iadd .u32 t3 s3, iadd .u32 t4 s4] := by kernel_rfl
theorem add5 (s t : S5) : [iadd .u32 ((t.1 : Nat) : Int) ((s.1 : Nat) : Int), iadd .u32 ((t.2.1 : Nat) : Int) ((s.2.1 : Nat) : Int), iadd .u32 ((t.2.2.1 : Nat) : Int) ((s.2.2.1 : Nat) : Int), iadd .u32 ((t.2.2.2.1 : Nat) : Int) ((s.2.2.2.1 : Nat) : Int), iadd .u32 ((t.2.2.2.2 : Nat) : Int) ((s.2.2.2.2 : Nat) : Int)] = nI (s1add s t).l := by
 simp only [add32]; rfl
theorem p199_is (R : ∀ x n : Nat, x < 4294967296 → n < 32 → c195 (x : Int) (n : Int) = some ((rotl x n : Nat) : Int))
  (Gt : ∀ a b c d : Nat, a < 256 → b < 256 → c < 256 → d < 256 → c21 [(a : Int), (b : Int), (c : Int), (d : Int)] false = some (((a * 16777216 + b * 65536 + c * 256 + d : Nat) : Int), 0))
  {B : List Nat} (hB : bel 256 B) (hl : B.length = 64) : p199 c21 c195 100 (nI B) = some (nI (s1W B)) := by
 unfold p199
 have hz : (zz 80) = nI z80 := by rfl
 rw [hz]
 refine (L199_is R Gt 100 _ B hB hl (nI z80) 80 0 100 z80 (by omega) (by omega) (bel_rep (by omega)) rfl).trans ?_
 exact row_fin (k := 80) rfl (by rw [nI_len]; exact s1W_len B)
theorem p183_is (R : ∀ x n : Nat, x < 4294967296 → n < 32 → c195 (x : Int) (n : Int) = some ((rotl x n : Nat) : Int)) (F : ∀ t b c d : Nat, b < 4294967296 → c < 4294967296 → d < 4294967296 → c201 (t : Int) (b : Int) (c : Int) (d : Int) = some ((s1f t b c d : Nat) : Int))
  (FW : ∀ B : List Nat, bel 256 B → B.length = 64 → c199 (nI B) = some (nI (s1W B))) (FK : c200 = some (nI s1K)) {s : S5} {B : List Nat} (hs : s.ok) (hB : bel 256 B) (hl : B.length = 64) :
  p183 c199 c200 c195 c201 100 (nI s.l) (nI B) = some (nI (s1blk s B).l) := by
 have h1 : List.take 64 (List.drop 0 (nI B)) = nI B := by rw [List.drop_zero, List.take_of_length_le (by rw [nI_len]; omega)]
 have h5 : List.take 5 (List.drop 0 (nI s.l)) = nI s.l := rfl
 have hW := s1W_len B
 unfold p183
 rw [h1, FW B hB hl, FK, h5]
 simp only [nI_len, hl, hW, Nat.le_refl, decide_true, cond_true, beq_self_eq_true, Nat.zero_add, show s1K.length = 4 from rfl, show s.l.length = 5 from rfl]
 rw [List.nil_append, List.nil_append, List.nil_append, show List.drop 80 (zz 80) = ([] : List Int) from rfl, show List.drop 4 [(0 : Int), (0 : Int), (0 : Int), (0 : Int)] = ([] : List Int) from rfl, show List.drop 5 [(0 : Int), (0 : Int), (0 : Int), (0 : Int), (0 : Int)] = ([] : List Int) from rfl, List.append_nil, List.append_nil, List.append_nil]
 refine (L183_is R F 100 _ (nI s.l) [(0 : Int), (0 : Int), (0 : Int), (0 : Int), (0 : Int)] (s1W B) hW 80 0 100 s (by omega) (by omega) hs).trans ?_
 refine (L183_1_is _ _ _ _ _ _ _ _ _ _ _ _).trans ?_
 rw [add5]
 exact row_fin (k := 5) rfl rfl
theorem p184_is (R : ∀ x n : Nat, x < 4294967296 → n < 32 → c202 (x : Int) (n : Int) = some ((rotl x n : Nat) : Int)) (F : ∀ i b c d : Nat, i < 80 → b < 4294967296 → c < 4294967296 → d < 4294967296 → c203 (i : Int) (b : Int) (c : Int) (d : Int) = some (((s1f (i / 20) b c d + gt s1K (i / 20)) % 4294967296 : Nat) : Int))
  {s : S5} {B : List Nat} (hs : s.ok) (hB : bel 256 B) (hl : B.length = 64) : p184 c202 c203 100 (nI s.l) (nI B) = some (nI (s1blk s B).l) := by
 have h5 : List.take 5 (List.drop 0 (nI s.l)) = nI s.l := rfl
 have hz : (zz 80) = nI z80 := by rfl
 unfold p184
 rw [hz]
 refine (L184_0_is R 100 _ B hB hl (nI s.l) [(0 : Int), (0 : Int), (0 : Int), (0 : Int), (0 : Int)] 80 0 100 z80 (by omega) (by omega) (bel_rep (by omega)) rfl).trans ?_
 rw [h5]
 simp only [nI_len, Nat.le_refl, decide_true, cond_true, beq_self_eq_true, Nat.zero_add, show s.l.length = 5 from rfl]
 rw [List.nil_append, show List.drop 5 [(0 : Int), (0 : Int), (0 : Int), (0 : Int), (0 : Int)] = ([] : List Int) from rfl, List.append_nil]
 refine (L184_1_is R F 100 _ (nI s.l) [(0 : Int), (0 : Int), (0 : Int), (0 : Int), (0 : Int)] (s1W B) (s1W_len B) 80 0 100 s (by omega) (by omega) hs).trans ?_
 refine (L184_2_is _ _ _ _ _ _ _ _ _ _ _ _).trans ?_
 rw [add5]
 exact row_fin (k := 5) rfl rfl
end
def h199 (l : List Int) := p199 h21 h195 100 l
def h200 := p200 h75 100
theorem E200 : EntOK FT XT 200 (en200 h200) := ok200 h75 E75 fun _ h => ⟨100, h⟩
theorem h200_is : h200 = some (nI s1K) := by kernel_rfl
theorem E199 : EntOK FT XT 199 (en199 h199) := ok199 h21 h195 E21 E195 fun _ _ h => ⟨100, h⟩
theorem h199_is {B : List Nat} (hB : bel 256 B) (hl : B.length = 64) : h199 (nI B) = some (nI (s1W B)) := p199_is (fun x n hx hn => rot_is hx hn) (fun a b c d ha hb hc hd => get_be ha hb hc hd) hB hl
def h183 (s b : List Int) := p183 h199 h200 h195 h201 100 s b
theorem E183 : EntOK FT XT 183 (en183 h183) := ok183 h199 h200 h195 h201 E199 E200 E195 E201 fun _ _ _ h => ⟨100, h⟩
theorem h183_is {s : S5} {B : List Nat} (hs : s.ok) (hB : bel 256 B) (hl : B.length = 64) : h183 (nI s.l) (nI B) = some (nI (s1blk s B).l) :=
 p183_is (fun x n hx hn => rot_is hx hn) (fun t b c d hb hc hd => h201_is t hb hc hd) (fun B hB hl => h199_is hB hl) h200_is hs hB hl
def h184 (s b : List Int) := p184 h202 h203 100 s b
theorem E184 : EntOK FT XT 184 (en184 h184) := ok184 h202 h203 E202 E203 fun _ _ _ h => ⟨100, h⟩
theorem h184_is {s : S5} {B : List Nat} (hs : s.ok) (hB : bel 256 B) (hl : B.length = 64) : h184 (nI s.l) (nI B) = some (nI (s1blk s B).l) :=
 p184_is (fun x n hx hn => h202_is hx hn) (fun i b c d hi hb hc hd => h203_is hi hb hc hd) hs hB hl
def s1blks : Nat → S5 → List Nat → S5
 | 0, s, _ => s
 | n + 1, s, l => s1blks n (s1blk s (l.take 64)) (l.drop 64)
theorem s1blks_ok : ∀ {n : Nat} {s : S5} {l : List Nat}, s.ok → (s1blks n s l).ok
 | 0, _, _, h => h
 | n + 1, s, l, h => s1blks_ok (n := n) (s1blk_ok s _)
def S5.bytes (s : S5) : List Nat := s.l.flatMap be4
theorem flatMap_be4_len : ∀ l : List Nat, (l.flatMap be4).length = 4 * l.length
 | [] => rfl
 | x :: l => by rw [List.flatMap_cons, List.length_append, flatMap_be4_len l, List.length_cons]; show 4 + _ = _; omega
section
variable {c46 : List (List Int) → Option (List Int)} {c185 c186 : Int → Option (List Int)} {c187 c188 : Option (List Int)} {c183 c184 : List Int → List Int → Option (List Int)} {c19 : Int → Int → Bool → Option ((List Int) × Int)}
theorem L190_0_is (F : ∀ (s : S5) (B : List Nat), s.ok → bel 256 B → B.length = 64 → c183 (nI s.l) (nI B) = some (nI (s1blk s B).l)) (N : Nat) (q : List Int → List Int → Option (List Int)) (v5 : List Int) :
  ∀ (n fuel : Nat) (l : List Nat) (s : S5), l.length = 64 * n → n < fuel → bel 256 l → s.ok → n < 2 ^ 40 → L190_0 c46 c185 c187 c183 c19 N q fuel (nI l) v5 (nI s.l) = q v5 (nI (s1blks n s l).l) := by
 intro n
 induction n with
 | zero =>
  intro fuel l s hl hf hb hs h40
  obtain ⟨m, rfl⟩ : ∃ m, fuel = m + 1 := ⟨fuel - 1, by omega⟩
  obtain rfl : l = [] := List.length_eq_zero_iff.1 (by omega)
  rfl
 | succ n ih =>
  intro fuel l s hl hf hb hs h40
  obtain ⟨m, rfl⟩ : ∃ m, fuel = m + 1 := ⟨fuel - 1, by omega⟩
  have h5 : List.take 5 (List.drop 0 (nI s.l)) = nI s.l := rfl
  have h64 : List.take 64 (List.drop 0 (List.take 64 (nI l))) = nI (l.take 64) := by rw [List.drop_zero, List.take_take, Nat.min_self, nI_take]
  have htl : (List.take 64 (nI l)).length = 64 := by rw [List.length_take, nI_len]; omega
  have key := ih m (l.drop 64) (s1blk s (l.take 64)) (by rw [List.length_drop]; omega) (by omega) (bel_drop hb) (s1blk_ok _ _) (by omega)
  simp only [L190_0, nI_len, show ((l.length : Nat) : Int) > 0 by omega, decide_true, cond_true, show s.l.length = 5 from rfl, Nat.le_refl, show (64 : Int) ≤ ((l.length : Nat) : Int) by omega, htl, h5, h64, F s (l.take 64) hs (bel_take hb) (by rw [List.length_take]; omega), show (s1blk s (l.take 64)).l.length = 5 from rfl, beq_self_eq_true, Nat.zero_add, take0, List.nil_append]
  rw [show List.drop 5 (nI s.l) = [] from rfl, List.append_nil, nI_drop]
  exact key
theorem L190_1_is (F : ∀ x : Nat, c19 (x : Int) 4 false = some (nI (be4 x), 0)) (N : Nat) (q : Nat → List Int → List Int → Option (List Int)) (S : List Nat) (hS : S.length = 5) (hb : bel 4294967296 S) (v13 : List Int) :
  ∀ (d i fuel v10 : Nat) (l : List Nat), i + d = 5 → d < fuel → l.length = v10 → v10 < 1000 - 4 * d → L190_1 c46 c185 c187 c183 c19 N q fuel v10 (nI S) (i : Int) v13 (nI l) = q (v10 + 4 * d) v13 (nI (l ++ (S.drop i).flatMap be4)) := by
 intro d
 induction d with
 | zero =>
  intro i fuel v10 l hd hf hl h10
  obtain ⟨m, rfl⟩ : ∃ m, fuel = m + 1 := ⟨fuel - 1, by omega⟩
  obtain rfl : i = 5 := by omega
  rw [List.drop_of_length_le (by omega)]
  simp [L190_1]
 | succ d ih =>
  intro i fuel v10 l hd hf hl h10
  obtain ⟨m, rfl⟩ : ∃ m, fuel = m + 1 := ⟨fuel - 1, by omega⟩
  have hi : i < S.length := by omega
  have hg := getn hi
  have hx : IntKind.u64.wrap ((gt S i : Nat) : Int) = ((gt S i : Nat) : Int) := w64 (by have := bel_gt hb hi; omega)
  have hdrop : (S.drop i).flatMap be4 = be4 (gt S i) ++ (S.drop (i + 1)).flatMap be4 := by
   rw [List.drop_eq_getElem_cons hi, List.flatMap_cons, gt, List.getD_eq_getElem?_getD, List.getElem?_eq_getElem hi]; rfl
  simp only [L190_1, show (i : Int) < 5 by omega, show (0 : Int) ≤ (i : Int) by omega, decide_true, Bool.and_self, cond_true, Int.toNat_natCast, Nat.mul_one, hg, hx, F, nI_len, hl, beq_self_eq_true, show (be4 (gt S i)).length = 4 from rfl, show v10 + 4 ≤ 1099511627776 by omega]
  rw [up1 (by omega), nI_app, ih (i + 1) m (v10 + 4) (l ++ be4 (gt S i)) (by omega) (by omega) (by rw [List.length_append, hl]; rfl) (by omega), hdrop, List.append_assoc]
  congr 1
  omega
/-- a block copied -/
theorem L191_1_is (N : Nat) (q : Nat → Int → List Int → List Int → List Int → List Int → Option (List Int)) (all : List Nat) (len : Nat) (hlen : len = all.length) (at_ : Nat) (hat : at_ + 64 ≤ all.length) (h40 : all.length < 2 ^ 40) (v11 v13 : List Int) :
  ∀ (d k fuel : Nat) (blk : List Nat), k + d = 64 → d < fuel → blk.length = 64 → blk.take k = (all.drop at_).take k → L191_1 c186 c188 c184 N q fuel len (at_ : Int) (k : Int) v11 (nI all) v13 (nI blk) = q len (at_ : Int) v11 (nI all) v13 (nI ((all.drop at_).take 64)) := by
 intro d
 induction d with
 | zero =>
  intro k fuel blk hd hf hl ht
  obtain ⟨m, rfl⟩ : ∃ m, fuel = m + 1 := ⟨fuel - 1, by omega⟩
  obtain rfl : k = 64 := by omega
  rw [List.take_of_length_le (by omega)] at ht
  simp only [L191_1, show ¬ (((64 : Nat) : Int) < 64) by omega, decide_false, cond_false, ← ht]
 | succ d ih =>
  intro k fuel blk hd hf hl ht
  obtain ⟨m, rfl⟩ : ∃ m, fuel = m + 1 := ⟨fuel - 1, by omega⟩
  have ha : iadd .i64 (at_ : Int) (k : Int) = ((at_ + k : Nat) : Int) := addn (by omega)
  have hg := getn (l := all) (i := at_ + k) (by omega)
  have key := ih (k + 1) m (blk.set k (gt all (at_ + k))) (by omega) (by omega) (by rw [List.length_set]; exact hl) (by
   rw [List.take_add_one, List.getElem?_set_self (by omega), List.take_set_of_le (Nat.le_refl k), ht, List.take_add_one, List.getElem?_drop, gt, List.getD_eq_getElem?_getD, List.getElem?_eq_getElem (show at_ + k < all.length by omega)]; rfl)
  simp only [L191_1, show (k : Int) < 64 by omega, decide_true, cond_true, ha, show (0 : Int) ≤ ((at_ + k : Nat) : Int) by omega, show ((at_ + k : Nat) : Int) < ((len : Nat) : Int) by omega, Bool.and_self, Int.toNat_natCast, Nat.mul_one, Nat.zero_add, hg, show (0 : Int) ≤ (k : Int) by omega, nI_len, show k < blk.length by omega]
  rw [nI_set, up1 (by omega)]
  exact key
theorem L191_0_is (F : ∀ (s : S5) (B : List Nat), s.ok → bel 256 B → B.length = 64 → c184 (nI s.l) (nI B) = some (nI (s1blk s B).l)) (q : List Int → List Int → Option (List Int)) (all : List Nat) (K : Nat) (hK : all.length = 64 * K) (h40 : all.length < 2 ^ 40) (hb : bel 256 all) (v5 : List Int) :
  ∀ (n k fuel : Nat) (s : S5), k + n = K → n < fuel → s.ok → L191_0 c186 c188 c184 100 q fuel all.length ((64 * k : Nat) : Int) v5 (nI all) (nI s.l) = q v5 (nI (s1blks n s (all.drop (64 * k))).l) := by
 intro n
 induction n with
 | zero =>
  intro k fuel s hk hf hs
  obtain ⟨m, rfl⟩ : ∃ m, fuel = m + 1 := ⟨fuel - 1, by omega⟩
  simp only [L191_0, show ¬ (((64 * k : Nat) : Int) < ((all.length : Nat) : Int)) by omega, decide_false, cond_false]
  rfl
 | succ n ih =>
  intro k fuel s hk hf hs
  obtain ⟨m, rfl⟩ : ∃ m, fuel = m + 1 := ⟨fuel - 1, by omega⟩
  have key := ih (k + 1) m (s1blk s ((all.drop (64 * k)).take 64)) (by omega) (by omega) (s1blk_ok _ _)
  have e64 : iadd .i64 ((64 * k : Nat) : Int) 64 = ((64 * (k + 1) : Nat) : Int) := by rw [show (64 : Int) = ((64 : Nat) : Int) from rfl, addn (by omega)]; congr 1
  have h5 : List.take 5 (List.drop 0 (nI s.l)) = nI s.l := rfl
  have hbl : ((all.drop (64 * k)).take 64).length = 64 := by rw [List.length_take, List.length_drop]; omega
  have h64 : List.take 64 (List.drop 0 (nI ((all.drop (64 * k)).take 64))) = nI ((all.drop (64 * k)).take 64) := by rw [List.drop_zero, List.take_of_length_le (by rw [nI_len]; omega)]
  simp only [L191_0, show ((64 * k : Nat) : Int) < ((all.length : Nat) : Int) by omega, decide_true, cond_true]
  rw [show ([(0 : Int), (0 : Int), (0 : Int), (0 : Int), (0 : Int), (0 : Int), (0 : Int), (0 : Int), (0 : Int), (0 : Int), (0 : Int), (0 : Int), (0 : Int), (0 : Int), (0 : Int), (0 : Int), (0 : Int), (0 : Int), (0 : Int), (0 : Int), (0 : Int), (0 : Int), (0 : Int), (0 : Int), (0 : Int), (0 : Int), (0 : Int), (0 : Int), (0 : Int), (0 : Int), (0 : Int), (0 : Int), (0 : Int), (0 : Int), (0 : Int), (0 : Int), (0 : Int), (0 : Int), (0 : Int), (0 : Int), (0 : Int), (0 : Int), (0 : Int), (0 : Int), (0 : Int), (0 : Int), (0 : Int), (0 : Int), (0 : Int), (0 : Int), (0 : Int), (0 : Int), (0 : Int), (0 : Int), (0 : Int), (0 : Int), (0 : Int), (0 : Int), (0 : Int), (0 : Int), (0 : Int), (0 : Int), (0 : Int), (0 : Int)] : List Int) = nI (List.replicate 64 0) from rfl]
  refine (L191_1_is 100 _ all all.length rfl (64 * k) (by omega) h40 v5 (nI s.l) 64 0 100 (List.replicate 64 0) (by omega) (by omega) (by simp) (by simp)).trans ?_
  simp only [nI_len, show s.l.length = 5 from rfl, hbl, Nat.le_refl, decide_true, cond_true, h5, h64, F s _ hs (bel_take (bel_drop hb)) hbl, show ∀ s B, (s1blk s B).l.length = 5 from fun _ _ => rfl, beq_self_eq_true, Nat.zero_add, take0, List.nil_append, e64]
  rw [show List.drop 5 (nI s.l) = [] from rfl, List.append_nil, key, show 64 * (k + 1) = 64 * k + 64 by omega, ← List.drop_drop]
  rfl
theorem L191_2_is (q : List Int → List Int → Option (List Int)) (v26 : List Int) (s0 s1 s2 s3 s4 : Int) :
  L191_2 c186 c188 c184 100 q 100 0 v26 [s0, s1, s2, s3, s4] [(0 : Int), (0 : Int), (0 : Int), (0 : Int), (0 : Int), (0 : Int), (0 : Int), (0 : Int), (0 : Int), (0 : Int), (0 : Int), (0 : Int), (0 : Int), (0 : Int), (0 : Int), (0 : Int), (0 : Int), (0 : Int), (0 : Int), (0 : Int)] = q v26 [IntKind.wrap .u8 (ishr .u32 s0 (isub .i64 24 (imul .i64 8 (irem 0 4)))), IntKind.wrap .u8 (ishr .u32 s0 (isub .i64 24 (imul .i64 8 (irem 1 4)))), IntKind.wrap .u8 (ishr .u32 s0 (isub .i64 24 (imul .i64 8 (irem 2 4)))), IntKind.wrap .u8 (ishr .u32 s0 (isub .i64 24 (imul .i64 8 (irem 3 4)))), IntKind.wrap .u8 (ishr .u32 s1 (isub .i64 24 (imul .i64 8 (irem 4 4)))), IntKind.wrap .u8 (ishr .u32 s1 (isub .i64 24 (imul .i64 8 (irem 5 4)))), IntKind.wrap .u8 (ishr .u32 s1 (isub .i64 24 (imul .i64 8 (irem 6 4)))), IntKind.wrap .u8 (ishr .u32 s1 (isub .i64 24 (imul .i64 8 (irem 7 4)))), IntKind.wrap .u8 (ishr .u32 s2 (isub .i64 24 (imul .i64 8 (irem 8 4)))), IntKind.wrap .u8 (ishr .u32 s2 (isub .i64 24 (imul .i64 8 (irem 9 4)))), IntKind.wrap .u8 (ishr .u32 s2 (isub .i64 24 (imul .i64 8 (irem 10 4)))), IntKind.wrap .u8 (ishr .u32 s2 (isub .i64 24 (imul .i64 8 (irem 11 4)))), IntKind.wrap .u8 (ishr .u32 s3 (isub .i64 24 (imul .i64 8 (irem 12 4)))), IntKind.wrap .u8 (ishr .u32 s3 (isub .i64 24 (imul .i64 8 (irem 13 4)))), IntKind.wrap .u8 (ishr .u32 s3 (isub .i64 24 (imul .i64 8 (irem 14 4)))), IntKind.wrap .u8 (ishr .u32 s3 (isub .i64 24 (imul .i64 8 (irem 15 4)))), IntKind.wrap .u8 (ishr .u32 s4 (isub .i64 24 (imul .i64 8 (irem 16 4)))), IntKind.wrap .u8 (ishr .u32 s4 (isub .i64 24 (imul .i64 8 (irem 17 4)))), IntKind.wrap .u8 (ishr .u32 s4 (isub .i64 24 (imul .i64 8 (irem 18 4)))), IntKind.wrap .u8 (ishr .u32 s4 (isub .i64 24 (imul .i64 8 (irem 19 4))))] := by kernel_rfl
theorem sh_is (x : Nat) {k : Nat} (hk : k ≤ 32) {e : Int} (he : e = ((k : Nat) : Int)) : IntKind.wrap .u8 (ishr .u32 (x : Int) e) = ((x / 2 ^ k % 256 : Nat) : Int) := by
 rw [he, shr32n hk, w8]
end
end Go.Proofs.YtdlmhclopdkhcaaDoorE
