/- SHA-256: the program's block is the reference's; digests. -/
import Derived.Test.YtciafmcbccgggaaEvzK1
namespace Go.Proofs.YtciafmcbccgggaaE
open Go
set_option linter.unusedSimpArgs false
set_option linter.unusedVariables false
def z64 : List Nat := List.replicate 64 0
theorem bel_rep {m n : Nat} (hm : 0 < m) : bel m (List.replicate n 0) := fun x hx => by rw [List.eq_of_mem_replicate hx]; exact hm
def s2W (B : List Nat) : List Nat := s2sp B 64 0 z64
theorem s2W_len (B : List Nat) : (s2W B).length = 64 := by unfold s2W; rw [s2sp_len]; rfl
def s2K : List Nat := [1116352408, 1899447441, 3049323471, 3921009573, 961987163, 1508970993, 2453635748, 2870763221, 3624381080, 310598401, 607225278, 1426881987, 1925078388, 2162078206, 2614888103, 3248222580, 3835390401, 4022224774, 264347078, 604807628, 770255983, 1249150122, 1555081692, 1996064986, 2554220882, 2821834349, 2952996808, 3210313671, 3336571891, 3584528711, 113926993, 338241895, 666307205, 773529912, 1294757372, 1396182291, 1695183700, 1986661051, 2177026350, 2456956037, 2730485921, 2820302411, 3259730800, 3345764771, 3516065817, 3600352804, 4094571909, 275423344, 430227734, 506948616, 659060556, 883997877, 958139571, 1322822218, 1537002063, 1747873779, 1955562222, 2024104815, 2227730452, 2361852424, 2428436474, 2756734187, 3204031479, 3329325298]
theorem s2K_len : s2K.length = 64 := rfl
def s2add (s t : S8) : S8 := ⟨(t.a + s.a) % 4294967296, (t.b + s.b) % 4294967296, (t.c + s.c) % 4294967296, (t.d + s.d) % 4294967296, (t.e + s.e) % 4294967296, (t.f + s.f) % 4294967296, (t.g + s.g) % 4294967296, (t.h + s.h) % 4294967296⟩
theorem s2add_ok (s t : S8) : (s2add s t).ok := ⟨mod32 _, mod32 _, mod32 _, mod32 _, mod32 _, mod32 _, mod32 _, mod32 _⟩
def s2blk (s : S8) (B : List Nat) : S8 := s2add s (s2run (s2W B) s2K 64 0 s)
theorem s2blk_ok (s : S8) (B : List Nat) : (s2blk s B).ok := by rw [s2blk]; exact s2add_ok _ _
theorem s8l_len (s : S8) : s.l.length = 8 := by rw [S8.l]; simp only [List.length_cons, List.length_nil]
section
variable {c230 : Int → Int → Int → Int → Option Int} {c231 : Option (List Int)} {c232 : Int → Int → Int → Int → Option Int} {c21 : List Int → Bool → Option (Int × Int)} {c238 : List Int → Int → Option Int} {c235 : List Int → Option (List Int)} {c236 : List Int → Int → Option (List Int)} {c83 : Int → Int → Option (List Int)} {c229 : List Int → List Int → List Int → Option (List Int)}
theorem L229_1_is (q : List Int → List Int → Option (List Int)) (v28 : List Int) (s0 s1 s2 s3 s4 s5 s6 s7 t0 t1 t2 t3 t4 t5 t6 t7 : Int) :
  L229_1 c235 c236 100 q 100 0 [s0, s1, s2, s3, s4, s5, s6, s7] v28 [t0, t1, t2, t3, t4, t5, t6, t7] = q v28 [iadd .u32 t0 s0, iadd .u32 t1 s1, iadd .u32 t2 s2, iadd .u32 t3 s3, iadd .u32 t4 s4, iadd .u32 t5 s5, iadd .u32 t6 s6, iadd .u32 t7 s7] := by kernel_rfl
theorem L216_2_is (q : List Int → List Int → Option (List Int)) (v28 : List Int) (s0 s1 s2 s3 s4 s5 s6 s7 t0 t1 t2 t3 t4 t5 t6 t7 : Int) :
  L216_2 c230 c231 c232 100 q 100 0 [s0, s1, s2, s3, s4, s5, s6, s7] v28 [t0, t1, t2, t3, t4, t5, t6, t7] = q v28 [iadd .u32 t0 s0, iadd .u32 t1 s1, iadd .u32 t2 s2, iadd .u32 t3 s3, iadd .u32 t4 s4, iadd .u32 t5 s5, iadd .u32 t6 s6, iadd .u32 t7 s7] := by kernel_rfl
theorem add8 (s t : S8) : [iadd .u32 ((t.a : Nat) : Int) ((s.a : Nat) : Int), iadd .u32 ((t.b : Nat) : Int) ((s.b : Nat) : Int), iadd .u32 ((t.c : Nat) : Int) ((s.c : Nat) : Int), iadd .u32 ((t.d : Nat) : Int) ((s.d : Nat) : Int), iadd .u32 ((t.e : Nat) : Int) ((s.e : Nat) : Int), iadd .u32 ((t.f : Nat) : Int) ((s.f : Nat) : Int), iadd .u32 ((t.g : Nat) : Int) ((s.g : Nat) : Int), iadd .u32 ((t.h : Nat) : Int) ((s.h : Nat) : Int)] = nI (s2add s t).l := by
 simp only [add32]; rw [s2add, nI8]
theorem p235_is (F1 : ∀ x : Nat, x < 4294967296 → c238 [7, 18, 3] (x : Int) = some ((s2sm x 25 14 3 : Nat) : Int)) (F2 : ∀ x : Nat, x < 4294967296 → c238 [17, 19, 10] (x : Int) = some ((s2sm x 15 13 10 : Nat) : Int))
  (Gt : ∀ a b c d : Nat, a < 256 → b < 256 → c < 256 → d < 256 → c21 [(a : Int), (b : Int), (c : Int), (d : Int)] false = some (((a * 16777216 + b * 65536 + c * 256 + d : Nat) : Int), 0))
  {B : List Nat} (hB : bel 256 B) (hl : B.length = 64) : p235 c21 c238 100 (nI B) = some (nI (s2W B)) := by
 unfold p235
 have hz : ([(0 : Int), (0 : Int), (0 : Int), (0 : Int), (0 : Int), (0 : Int), (0 : Int), (0 : Int), (0 : Int), (0 : Int), (0 : Int), (0 : Int), (0 : Int), (0 : Int), (0 : Int), (0 : Int), (0 : Int), (0 : Int), (0 : Int), (0 : Int), (0 : Int), (0 : Int), (0 : Int), (0 : Int), (0 : Int), (0 : Int), (0 : Int), (0 : Int), (0 : Int), (0 : Int), (0 : Int), (0 : Int), (0 : Int), (0 : Int), (0 : Int), (0 : Int), (0 : Int), (0 : Int), (0 : Int), (0 : Int), (0 : Int), (0 : Int), (0 : Int), (0 : Int), (0 : Int), (0 : Int), (0 : Int), (0 : Int), (0 : Int), (0 : Int), (0 : Int), (0 : Int), (0 : Int), (0 : Int), (0 : Int), (0 : Int), (0 : Int), (0 : Int), (0 : Int), (0 : Int), (0 : Int), (0 : Int), (0 : Int), (0 : Int)] : List Int) = nI z64 := by rfl
 rw [hz]
 refine (L235_is F1 F2 Gt 100 _ B hB hl (nI z64) 64 0 100 z64 (by omega) (by omega) (bel_rep (by omega)) rfl).trans ?_
 exact row_fin (k := 64) rfl (by rw [nI_len]; exact s2W_len B)
theorem h8 (s : S8) : List.take 8 (List.drop 0 (nI s.l)) = nI s.l := by rw [List.drop_zero, List.take_of_length_le (by rw [nI_len, s8l_len]; omega)]
theorem d8 (s : S8) : List.drop 8 (nI s.l) = [] := List.drop_of_length_le (by rw [nI_len, s8l_len]; omega)
theorem p229_is (F : ∀ (s : S8) (x : Nat), s.ok → c236 (nI s.l) (x : Int) = some (nI (s2step1 s x).l))
  (FW : ∀ B : List Nat, bel 256 B → B.length = 64 → c235 (nI B) = some (nI (s2W B))) {s : S8} {B : List Nat} (hs : s.ok) (hB : bel 256 B) (hl : B.length = 64) :
  p229 c235 c236 100 (nI s.l) (nI B) (nI s2K) = some (nI (s2blk s B).l) := by
 have h1 : List.take 64 (List.drop 0 (nI B)) = nI B := by rw [List.drop_zero, List.take_of_length_le (by rw [nI_len]; omega)]
 unfold p229
 rw [h1, FW B hB hl, h8]
 simp only [nI_len, hl, s8l_len, Nat.le_refl, decide_true, cond_true, beq_self_eq_true, Nat.zero_add]
 rw [List.nil_append, show List.drop 8 [(0 : Int), (0 : Int), (0 : Int), (0 : Int), (0 : Int), (0 : Int), (0 : Int), (0 : Int)] = ([] : List Int) from rfl, List.append_nil]
 refine (L229_0_is F 100 _ (nI s.l) [(0 : Int), (0 : Int), (0 : Int), (0 : Int), (0 : Int), (0 : Int), (0 : Int), (0 : Int)] (s2W B) s2K (s2W_len B) s2K_len 64 0 100 s (by omega) (by omega) hs).trans ?_
 rw [s2blk]
 generalize s2run (s2W B) s2K 64 0 s = t
 rw [nI8 s, nI8 t]
 refine (L229_1_is _ _ _ _ _ _ _ _ _ _ _ _ _ _ _ _ _ _).trans ?_
 rw [add8]
 exact row_fin (k := 8) rfl (by rw [nI_len, s8l_len])
theorem p216_is (F1 : ∀ x : Nat, x < 4294967296 → c230 (x : Int) 7 18 3 = some ((s2sm x 25 14 3 : Nat) : Int)) (F2 : ∀ x : Nat, x < 4294967296 → c230 (x : Int) 17 19 10 = some ((s2sm x 15 13 10 : Nat) : Int))
  (F3 : ∀ x : Nat, x < 4294967296 → c232 (x : Int) 6 11 25 = some ((s2gr x 26 21 7 : Nat) : Int)) (F4 : ∀ x : Nat, x < 4294967296 → c232 (x : Int) 2 13 22 = some ((s2gr x 30 19 10 : Nat) : Int)) (FK : c231 = some (nI s2K))
  {s : S8} {B : List Nat} (hs : s.ok) (hB : bel 256 B) (hl : B.length = 64) : p216 c230 c231 c232 100 (nI s.l) (nI B) = some (nI (s2blk s B).l) := by
 have hz : ([(0 : Int), (0 : Int), (0 : Int), (0 : Int), (0 : Int), (0 : Int), (0 : Int), (0 : Int), (0 : Int), (0 : Int), (0 : Int), (0 : Int), (0 : Int), (0 : Int), (0 : Int), (0 : Int), (0 : Int), (0 : Int), (0 : Int), (0 : Int), (0 : Int), (0 : Int), (0 : Int), (0 : Int), (0 : Int), (0 : Int), (0 : Int), (0 : Int), (0 : Int), (0 : Int), (0 : Int), (0 : Int), (0 : Int), (0 : Int), (0 : Int), (0 : Int), (0 : Int), (0 : Int), (0 : Int), (0 : Int), (0 : Int), (0 : Int), (0 : Int), (0 : Int), (0 : Int), (0 : Int), (0 : Int), (0 : Int), (0 : Int), (0 : Int), (0 : Int), (0 : Int), (0 : Int), (0 : Int), (0 : Int), (0 : Int), (0 : Int), (0 : Int), (0 : Int), (0 : Int), (0 : Int), (0 : Int), (0 : Int), (0 : Int)] : List Int) = nI z64 := by rfl
 unfold p216
 rw [hz]
 refine (L216_0_is F1 F2 100 _ B hB hl (nI s.l) [(0 : Int), (0 : Int), (0 : Int), (0 : Int), (0 : Int), (0 : Int), (0 : Int), (0 : Int)] 64 0 100 z64 (by omega) (by omega) (bel_rep (by omega)) rfl).trans ?_
 rw [FK, h8]
 simp only [nI_len, Nat.le_refl, decide_true, cond_true, beq_self_eq_true, Nat.zero_add, s8l_len]
 rw [List.nil_append, show List.drop 8 [(0 : Int), (0 : Int), (0 : Int), (0 : Int), (0 : Int), (0 : Int), (0 : Int), (0 : Int)] = ([] : List Int) from rfl, List.append_nil]
 refine (L216_1_is F3 F4 100 _ (nI s.l) [(0 : Int), (0 : Int), (0 : Int), (0 : Int), (0 : Int), (0 : Int), (0 : Int), (0 : Int)] (s2W B) s2K (s2W_len B) s2K_len 64 0 100 s (by omega) (by omega) hs).trans ?_
 rw [s2blk]
 generalize s2run (s2W B) s2K 64 0 s = t
 rw [nI8 s, nI8 t]
 refine (L216_2_is _ _ _ _ _ _ _ _ _ _ _ _ _ _ _ _ _ _).trans ?_
 rw [add8]
 exact row_fin (k := 8) rfl (by rw [nI_len, s8l_len])
end
def h78 (n d : Int) := p78 h75 0 n d
theorem E78 : EntOK FT XT 78 (en78 h78) := ok78 h75 E75 fun _ _ _ h => ⟨0, h⟩
def h81 (n : Int) := p81 1000 n
theorem E81 : EntOK FT XT 81 (en81 h81) := ok81 fun _ _ h => ⟨1000, h⟩
def h83 (n d : Int) := p83 h81 h78 100 n d
theorem E83 : EntOK FT XT 83 (en83 h83) := ok83 h81 h78 E81 E78 fun _ _ _ h => ⟨100, h⟩
theorem h83_K : h83 64 3 = some (nI s2K) := by kernel_rfl
def s2I : S8 := ⟨1779033703, 3144134277, 1013904242, 2773480762, 1359893119, 2600822924, 528734635, 1541459225⟩
theorem s2I_ok : s2I.ok := ⟨by decide, by decide, by decide, by decide, by decide, by decide, by decide, by decide⟩
theorem h83_I : h83 8 2 = some (nI s2I.l) := by kernel_rfl
def h235 (l : List Int) := p235 h21 h238 100 l
theorem E235 : EntOK FT XT 235 (en235 h235) := ok235 h21 h238 E21 E238 fun _ _ h => ⟨100, h⟩
theorem h235_is {B : List Nat} (hB : bel 256 B) (hl : B.length = 64) : h235 (nI B) = some (nI (s2W B)) := p235_is (fun x hx => sm1 hx) (fun x hx => sm2 hx) (fun a b c d ha hb hc hd => get_be ha hb hc hd) hB hl
def h229 (s b k : List Int) := p229 h235 h236 100 s b k
theorem E229 : EntOK FT XT 229 (en229 h229) := ok229 h235 h236 E235 E236 fun _ _ _ _ h => ⟨100, h⟩
theorem h229_is {s : S8} {B : List Nat} (hs : s.ok) (hB : bel 256 B) (hl : B.length = 64) : h229 (nI s.l) (nI B) (nI s2K) = some (nI (s2blk s B).l) :=
 p229_is (fun s x hs => h236_is hs x) (fun B hB hl => h235_is hB hl) hs hB hl
def h231 := p231 0
theorem E231 : EntOK FT XT 231 (en231 h231) := ok231 fun _ h => ⟨0, h⟩
theorem h231_is : h231 = some (nI s2K) := rfl
def h216 (s b : List Int) := p216 h230 h231 h232 100 s b
theorem E216 : EntOK FT XT 216 (en216 h216) := ok216 h230 h231 h232 E230 E231 E232 fun _ _ _ h => ⟨100, h⟩
theorem h216_is {s : S8} {B : List Nat} (hs : s.ok) (hB : bel 256 B) (hl : B.length = 64) : h216 (nI s.l) (nI B) = some (nI (s2blk s B).l) :=
 p216_is (fun x hx => rsm1 hx) (fun x hx => rsm2 hx) (fun x hx => rgr1 hx) (fun x hx => rgr2 hx) h231_is hs hB hl
def h219 := p219 h83 0
theorem E219 : EntOK FT XT 219 (en219 h219) := ok219 h83 E83 fun _ h => ⟨0, h⟩
theorem h219_is : h219 = some (nI s2I.l) := by
 unfold h219 p219
 rw [h83_I]
 rfl
def h220 := p220 0
theorem E220 : EntOK FT XT 220 (en220 h220) := ok220 fun _ h => ⟨0, h⟩
theorem h220_is : h220 = some (nI s2I.l) := rfl
def s2blks : Nat → S8 → List Nat → S8
 | 0, s, _ => s
 | n + 1, s, l => s2blks n (s2blk s (l.take 64)) (l.drop 64)
def S8.bytes (s : S8) : List Nat := s.l.flatMap be4
theorem flatMap_be4_len : ∀ l : List Nat, (l.flatMap be4).length = 4 * l.length
 | [] => rfl
 | x :: l => by rw [List.flatMap_cons, List.length_append, flatMap_be4_len l, List.length_cons]; show 4 + _ = _; omega
section
variable {c46 : List (List Int) → Option (List Int)} {c217 c218 : Int → Option (List Int)} {c219 c220 : Option (List Int)} {c83 : Int → Int → Option (List Int)} {c229 : List Int → List Int → List Int → Option (List Int)} {c216 : List Int → List Int → Option (List Int)}
theorem L213_0_is (F : ∀ (s : S8) (B : List Nat), s.ok → bel 256 B → B.length = 64 → c229 (nI s.l) (nI B) (nI s2K) = some (nI (s2blk s B).l)) (N : Nat) (q : List Int → List Int → Option (List Int)) (v7 : List Int) :
  ∀ (n fuel : Nat) (l : List Nat) (s : S8), l.length = 64 * n → n < fuel → bel 256 l → s.ok → n < 2 ^ 40 → L213_0 c46 c217 c219 c83 c229 N q fuel (nI l) (nI s2K) v7 (nI s.l) = q v7 (nI (s2blks n s l).l) := by
 intro n
 induction n with
 | zero =>
  intro fuel l s hl hf hb hs h40
  obtain ⟨m, rfl⟩ : ∃ m, fuel = m + 1 := ⟨fuel - 1, by omega⟩
  obtain rfl : l = [] := List.length_eq_zero_iff.1 (by omega)
  rw [s2blks]
  rfl
 | succ n ih =>
  intro fuel l s hl hf hb hs h40
  obtain ⟨m, rfl⟩ : ∃ m, fuel = m + 1 := ⟨fuel - 1, by omega⟩
  have h64 : List.take 64 (List.drop 0 (List.take 64 (nI l))) = nI (l.take 64) := by rw [List.drop_zero, List.take_take, Nat.min_self, nI_take]
  have htl : (List.take 64 (nI l)).length = 64 := by rw [List.length_take, nI_len]; omega
  have key := ih m (l.drop 64) (s2blk s (l.take 64)) (by rw [List.length_drop]; omega) (by omega) (bel_drop hb) (s2blk_ok _ _) (by omega)
  have hc := F s (l.take 64) hs (bel_take hb) (by rw [List.length_take]; omega)
  rw [s2blks]
  generalize s2blk s (l.take 64) = t at *
  simp only [L213_0, nI_len, show ((l.length : Nat) : Int) > 0 by omega, decide_true, cond_true, s8l_len, Nat.le_refl, show (64 : Int) ≤ ((l.length : Nat) : Int) by omega, htl, h8, h64, hc, beq_self_eq_true, Nat.zero_add, take0, List.nil_append]
  rw [d8, List.append_nil, nI_drop]
  exact key
theorem L213_1_is (q : List Int → List Int → Option (List Int)) (v26 : List Int) (s0 s1 s2 s3 s4 s5 s6 s7 : Int) :
  L213_1 c46 c217 c219 c83 c229 100 q 100 0 v26 [s0, s1, s2, s3, s4, s5, s6, s7] [(0 : Int), (0 : Int), (0 : Int), (0 : Int), (0 : Int), (0 : Int), (0 : Int), (0 : Int), (0 : Int), (0 : Int), (0 : Int), (0 : Int), (0 : Int), (0 : Int), (0 : Int), (0 : Int), (0 : Int), (0 : Int), (0 : Int), (0 : Int), (0 : Int), (0 : Int), (0 : Int), (0 : Int), (0 : Int), (0 : Int), (0 : Int), (0 : Int), (0 : Int), (0 : Int), (0 : Int), (0 : Int)] = q v26 [IntKind.wrap .u8 (ishr .u32 s0 (imul .i64 8 (isub .i64 3 (irem 0 4)))), IntKind.wrap .u8 (ishr .u32 s0 (imul .i64 8 (isub .i64 3 (irem 1 4)))), IntKind.wrap .u8 (ishr .u32 s0 (imul .i64 8 (isub .i64 3 (irem 2 4)))), IntKind.wrap .u8 (ishr .u32 s0 (imul .i64 8 (isub .i64 3 (irem 3 4)))), IntKind.wrap .u8 (ishr .u32 s1 (imul .i64 8 (isub .i64 3 (irem 4 4)))), IntKind.wrap .u8 (ishr .u32 s1 (imul .i64 8 (isub .i64 3 (irem 5 4)))), IntKind.wrap .u8 (ishr .u32 s1 (imul .i64 8 (isub .i64 3 (irem 6 4)))), IntKind.wrap .u8 (ishr .u32 s1 (imul .i64 8 (isub .i64 3 (irem 7 4)))), IntKind.wrap .u8 (ishr .u32 s2 (imul .i64 8 (isub .i64 3 (irem 8 4)))), IntKind.wrap .u8 (ishr .u32 s2 (imul .i64 8 (isub .i64 3 (irem 9 4)))), IntKind.wrap .u8 (ishr .u32 s2 (imul .i64 8 (isub .i64 3 (irem 10 4)))), IntKind.wrap .u8 (ishr .u32 s2 (imul .i64 8 (isub .i64 3 (irem 11 4)))), IntKind.wrap .u8 (ishr .u32 s3 (imul .i64 8 (isub .i64 3 (irem 12 4)))), IntKind.wrap .u8 (ishr .u32 s3 (imul .i64 8 (isub .i64 3 (irem 13 4)))), IntKind.wrap .u8 (ishr .u32 s3 (imul .i64 8 (isub .i64 3 (irem 14 4)))), IntKind.wrap .u8 (ishr .u32 s3 (imul .i64 8 (isub .i64 3 (irem 15 4)))), IntKind.wrap .u8 (ishr .u32 s4 (imul .i64 8 (isub .i64 3 (irem 16 4)))), IntKind.wrap .u8 (ishr .u32 s4 (imul .i64 8 (isub .i64 3 (irem 17 4)))), IntKind.wrap .u8 (ishr .u32 s4 (imul .i64 8 (isub .i64 3 (irem 18 4)))), IntKind.wrap .u8 (ishr .u32 s4 (imul .i64 8 (isub .i64 3 (irem 19 4)))), IntKind.wrap .u8 (ishr .u32 s5 (imul .i64 8 (isub .i64 3 (irem 20 4)))), IntKind.wrap .u8 (ishr .u32 s5 (imul .i64 8 (isub .i64 3 (irem 21 4)))), IntKind.wrap .u8 (ishr .u32 s5 (imul .i64 8 (isub .i64 3 (irem 22 4)))), IntKind.wrap .u8 (ishr .u32 s5 (imul .i64 8 (isub .i64 3 (irem 23 4)))), IntKind.wrap .u8 (ishr .u32 s6 (imul .i64 8 (isub .i64 3 (irem 24 4)))), IntKind.wrap .u8 (ishr .u32 s6 (imul .i64 8 (isub .i64 3 (irem 25 4)))), IntKind.wrap .u8 (ishr .u32 s6 (imul .i64 8 (isub .i64 3 (irem 26 4)))), IntKind.wrap .u8 (ishr .u32 s6 (imul .i64 8 (isub .i64 3 (irem 27 4)))), IntKind.wrap .u8 (ishr .u32 s7 (imul .i64 8 (isub .i64 3 (irem 28 4)))), IntKind.wrap .u8 (ishr .u32 s7 (imul .i64 8 (isub .i64 3 (irem 29 4)))), IntKind.wrap .u8 (ishr .u32 s7 (imul .i64 8 (isub .i64 3 (irem 30 4)))), IntKind.wrap .u8 (ishr .u32 s7 (imul .i64 8 (isub .i64 3 (irem 31 4))))] := by kernel_rfl
theorem L214_1_is (N : Nat) (q : Nat → Int → List Int → List Int → List Int → List Int → Option (List Int)) (all : List Nat) (len : Nat) (hlen : len = all.length) (at_ : Nat) (hat : at_ + 64 ≤ all.length) (h40 : all.length < 2 ^ 40) (v11 v13 : List Int) :
  ∀ (d k fuel : Nat) (blk : List Nat), k + d = 64 → d < fuel → blk.length = 64 → blk.take k = (all.drop at_).take k → L214_1 c218 c220 c216 N q fuel len (at_ : Int) (k : Int) v11 (nI all) v13 (nI blk) = q len (at_ : Int) v11 (nI all) v13 (nI ((all.drop at_).take 64)) := by
 intro d
 induction d with
 | zero =>
  intro k fuel blk hd hf hl ht
  obtain ⟨m, rfl⟩ : ∃ m, fuel = m + 1 := ⟨fuel - 1, by omega⟩
  obtain rfl : k = 64 := by omega
  rw [List.take_of_length_le (by omega)] at ht
  simp only [L214_1, show ¬ (((64 : Nat) : Int) < 64) by omega, decide_false, cond_false, ← ht]
 | succ d ih =>
  intro k fuel blk hd hf hl ht
  obtain ⟨m, rfl⟩ : ∃ m, fuel = m + 1 := ⟨fuel - 1, by omega⟩
  have ha : iadd .i64 (at_ : Int) (k : Int) = ((at_ + k : Nat) : Int) := addn (by omega)
  have hg := getn (l := all) (i := at_ + k) (by omega)
  have key := ih (k + 1) m (blk.set k (gt all (at_ + k))) (by omega) (by omega) (by rw [List.length_set]; exact hl) (by
   rw [List.take_add_one, List.getElem?_set_self (by omega), List.take_set_of_le (Nat.le_refl k), ht, List.take_add_one, List.getElem?_drop, gt, List.getD_eq_getElem?_getD, List.getElem?_eq_getElem (show at_ + k < all.length by omega)]; rfl)
  simp only [L214_1, show (k : Int) < 64 by omega, decide_true, cond_true, ha, show (0 : Int) ≤ ((at_ + k : Nat) : Int) by omega, show ((at_ + k : Nat) : Int) < ((len : Nat) : Int) by omega, Bool.and_self, Int.toNat_natCast, Nat.mul_one, Nat.zero_add, hg, show (0 : Int) ≤ (k : Int) by omega, nI_len, show k < blk.length by omega]
  rw [nI_set, up1 (by omega)]
  exact key
theorem L214_0_is (F : ∀ (s : S8) (B : List Nat), s.ok → bel 256 B → B.length = 64 → c216 (nI s.l) (nI B) = some (nI (s2blk s B).l)) (q : List Int → List Int → Option (List Int)) (all : List Nat) (K : Nat) (hK : all.length = 64 * K) (h40 : all.length < 2 ^ 40) (hb : bel 256 all) (v5 : List Int) :
  ∀ (n k fuel : Nat) (s : S8), k + n = K → n < fuel → s.ok → L214_0 c218 c220 c216 100 q fuel all.length ((64 * k : Nat) : Int) v5 (nI all) (nI s.l) = q v5 (nI (s2blks n s (all.drop (64 * k))).l) := by
 intro n
 induction n with
 | zero =>
  intro k fuel s hk hf hs
  obtain ⟨m, rfl⟩ : ∃ m, fuel = m + 1 := ⟨fuel - 1, by omega⟩
  simp only [L214_0, show ¬ (((64 * k : Nat) : Int) < ((all.length : Nat) : Int)) by omega, decide_false, cond_false]
  rw [s2blks]
 | succ n ih =>
  intro k fuel s hk hf hs
  obtain ⟨m, rfl⟩ : ∃ m, fuel = m + 1 := ⟨fuel - 1, by omega⟩
  have key := ih (k + 1) m (s2blk s ((all.drop (64 * k)).take 64)) (by omega) (by omega) (s2blk_ok _ _)
  have e64 : iadd .i64 ((64 * k : Nat) : Int) 64 = ((64 * (k + 1) : Nat) : Int) := by rw [show (64 : Int) = ((64 : Nat) : Int) from rfl, addn (by omega)]; congr 1
  have hbl : ((all.drop (64 * k)).take 64).length = 64 := by rw [List.length_take, List.length_drop]; omega
  have h64 : List.take 64 (List.drop 0 (nI ((all.drop (64 * k)).take 64))) = nI ((all.drop (64 * k)).take 64) := by rw [List.drop_zero, List.take_of_length_le (by rw [nI_len]; omega)]
  have hc := F s _ hs (bel_take (bel_drop hb)) hbl
  rw [s2blks, List.drop_drop, show 64 * k + 64 = 64 * (k + 1) by omega]
  generalize s2blk s ((all.drop (64 * k)).take 64) = t at *
  simp only [L214_0, show ((64 * k : Nat) : Int) < ((all.length : Nat) : Int) by omega, decide_true, cond_true]
  rw [show ([(0 : Int), (0 : Int), (0 : Int), (0 : Int), (0 : Int), (0 : Int), (0 : Int), (0 : Int), (0 : Int), (0 : Int), (0 : Int), (0 : Int), (0 : Int), (0 : Int), (0 : Int), (0 : Int), (0 : Int), (0 : Int), (0 : Int), (0 : Int), (0 : Int), (0 : Int), (0 : Int), (0 : Int), (0 : Int), (0 : Int), (0 : Int), (0 : Int), (0 : Int), (0 : Int), (0 : Int), (0 : Int), (0 : Int), (0 : Int), (0 : Int), (0 : Int), (0 : Int), (0 : Int), (0 : Int), (0 : Int), (0 : Int), (0 : Int), (0 : Int), (0 : Int), (0 : Int), (0 : Int), (0 : Int), (0 : Int), (0 : Int), (0 : Int), (0 : Int), (0 : Int), (0 : Int), (0 : Int), (0 : Int), (0 : Int), (0 : Int), (0 : Int), (0 : Int), (0 : Int), (0 : Int), (0 : Int), (0 : Int), (0 : Int)] : List Int) = nI (List.replicate 64 0) from rfl]
  refine (L214_1_is 100 _ all all.length rfl (64 * k) (by omega) h40 v5 (nI s.l) 64 0 100 (List.replicate 64 0) (by omega) (by omega) (by simp) (by simp)).trans ?_
  simp only [nI_len, s8l_len, hbl, Nat.le_refl, decide_true, cond_true, h8, h64, hc, beq_self_eq_true, Nat.zero_add, take0, List.nil_append, e64]
  rw [d8, List.append_nil, key]
theorem L214_2_is (q : List Int → List Int → Option (List Int)) (v26 : List Int) (s0 s1 s2 s3 s4 s5 s6 s7 : Int) :
  L214_2 c218 c220 c216 100 q 100 0 v26 [s0, s1, s2, s3, s4, s5, s6, s7] [(0 : Int), (0 : Int), (0 : Int), (0 : Int), (0 : Int), (0 : Int), (0 : Int), (0 : Int), (0 : Int), (0 : Int), (0 : Int), (0 : Int), (0 : Int), (0 : Int), (0 : Int), (0 : Int), (0 : Int), (0 : Int), (0 : Int), (0 : Int), (0 : Int), (0 : Int), (0 : Int), (0 : Int), (0 : Int), (0 : Int), (0 : Int), (0 : Int), (0 : Int), (0 : Int), (0 : Int), (0 : Int)] = q v26 [IntKind.wrap .u8 (ishr .u32 s0 (isub .i64 24 (imul .i64 8 (irem 0 4)))), IntKind.wrap .u8 (ishr .u32 s0 (isub .i64 24 (imul .i64 8 (irem 1 4)))), IntKind.wrap .u8 (ishr .u32 s0 (isub .i64 24 (imul .i64 8 (irem 2 4)))), IntKind.wrap .u8 (ishr .u32 s0 (isub .i64 24 (imul .i64 8 (irem 3 4)))), IntKind.wrap .u8 (ishr .u32 s1 (isub .i64 24 (imul .i64 8 (irem 4 4)))), IntKind.wrap .u8 (ishr .u32 s1 (isub .i64 24 (imul .i64 8 (irem 5 4)))), IntKind.wrap .u8 (ishr .u32 s1 (isub .i64 24 (imul .i64 8 (irem 6 4)))), IntKind.wrap .u8 (ishr .u32 s1 (isub .i64 24 (imul .i64 8 (irem 7 4)))), IntKind.wrap .u8 (ishr .u32 s2 (isub .i64 24 (imul .i64 8 (irem 8 4)))), IntKind.wrap .u8 (ishr .u32 s2 (isub .i64 24 (imul .i64 8 (irem 9 4)))), IntKind.wrap .u8 (ishr .u32 s2 (isub .i64 24 (imul .i64 8 (irem 10 4)))), IntKind.wrap .u8 (ishr .u32 s2 (isub .i64 24 (imul .i64 8 (irem 11 4)))), IntKind.wrap .u8 (ishr .u32 s3 (isub .i64 24 (imul .i64 8 (irem 12 4)))), IntKind.wrap .u8 (ishr .u32 s3 (isub .i64 24 (imul .i64 8 (irem 13 4)))), IntKind.wrap .u8 (ishr .u32 s3 (isub .i64 24 (imul .i64 8 (irem 14 4)))), IntKind.wrap .u8 (ishr .u32 s3 (isub .i64 24 (imul .i64 8 (irem 15 4)))), IntKind.wrap .u8 (ishr .u32 s4 (isub .i64 24 (imul .i64 8 (irem 16 4)))), IntKind.wrap .u8 (ishr .u32 s4 (isub .i64 24 (imul .i64 8 (irem 17 4)))), IntKind.wrap .u8 (ishr .u32 s4 (isub .i64 24 (imul .i64 8 (irem 18 4)))), IntKind.wrap .u8 (ishr .u32 s4 (isub .i64 24 (imul .i64 8 (irem 19 4)))), IntKind.wrap .u8 (ishr .u32 s5 (isub .i64 24 (imul .i64 8 (irem 20 4)))), IntKind.wrap .u8 (ishr .u32 s5 (isub .i64 24 (imul .i64 8 (irem 21 4)))), IntKind.wrap .u8 (ishr .u32 s5 (isub .i64 24 (imul .i64 8 (irem 22 4)))), IntKind.wrap .u8 (ishr .u32 s5 (isub .i64 24 (imul .i64 8 (irem 23 4)))), IntKind.wrap .u8 (ishr .u32 s6 (isub .i64 24 (imul .i64 8 (irem 24 4)))), IntKind.wrap .u8 (ishr .u32 s6 (isub .i64 24 (imul .i64 8 (irem 25 4)))), IntKind.wrap .u8 (ishr .u32 s6 (isub .i64 24 (imul .i64 8 (irem 26 4)))), IntKind.wrap .u8 (ishr .u32 s6 (isub .i64 24 (imul .i64 8 (irem 27 4)))), IntKind.wrap .u8 (ishr .u32 s7 (isub .i64 24 (imul .i64 8 (irem 28 4)))), IntKind.wrap .u8 (ishr .u32 s7 (isub .i64 24 (imul .i64 8 (irem 29 4)))), IntKind.wrap .u8 (ishr .u32 s7 (isub .i64 24 (imul .i64 8 (irem 30 4)))), IntKind.wrap .u8 (ishr .u32 s7 (isub .i64 24 (imul .i64 8 (irem 31 4))))] := by kernel_rfl
theorem sh_is (x : Nat) {k : Nat} (hk : k ≤ 32) {e : Int} (he : e = ((k : Nat) : Int)) : IntKind.wrap .u8 (ishr .u32 (x : Int) e) = ((x / 2 ^ k % 256 : Nat) : Int) := by
 rw [he, shr32n hk, w8]
theorem ref_bytes (s : S8) : [IntKind.wrap .u8 (ishr .u32 ((s.a : Nat) : Int) (isub .i64 24 (imul .i64 8 (irem 0 4)))), IntKind.wrap .u8 (ishr .u32 ((s.a : Nat) : Int) (isub .i64 24 (imul .i64 8 (irem 1 4)))), IntKind.wrap .u8 (ishr .u32 ((s.a : Nat) : Int) (isub .i64 24 (imul .i64 8 (irem 2 4)))), IntKind.wrap .u8 (ishr .u32 ((s.a : Nat) : Int) (isub .i64 24 (imul .i64 8 (irem 3 4)))), IntKind.wrap .u8 (ishr .u32 ((s.b : Nat) : Int) (isub .i64 24 (imul .i64 8 (irem 4 4)))), IntKind.wrap .u8 (ishr .u32 ((s.b : Nat) : Int) (isub .i64 24 (imul .i64 8 (irem 5 4)))), IntKind.wrap .u8 (ishr .u32 ((s.b : Nat) : Int) (isub .i64 24 (imul .i64 8 (irem 6 4)))), IntKind.wrap .u8 (ishr .u32 ((s.b : Nat) : Int) (isub .i64 24 (imul .i64 8 (irem 7 4)))), IntKind.wrap .u8 (ishr .u32 ((s.c : Nat) : Int) (isub .i64 24 (imul .i64 8 (irem 8 4)))), IntKind.wrap .u8 (ishr .u32 ((s.c : Nat) : Int) (isub .i64 24 (imul .i64 8 (irem 9 4)))), IntKind.wrap .u8 (ishr .u32 ((s.c : Nat) : Int) (isub .i64 24 (imul .i64 8 (irem 10 4)))), IntKind.wrap .u8 (ishr .u32 ((s.c : Nat) : Int) (isub .i64 24 (imul .i64 8 (irem 11 4)))), IntKind.wrap .u8 (ishr .u32 ((s.d : Nat) : Int) (isub .i64 24 (imul .i64 8 (irem 12 4)))), IntKind.wrap .u8 (ishr .u32 ((s.d : Nat) : Int) (isub .i64 24 (imul .i64 8 (irem 13 4)))), IntKind.wrap .u8 (ishr .u32 ((s.d : Nat) : Int) (isub .i64 24 (imul .i64 8 (irem 14 4)))), IntKind.wrap .u8 (ishr .u32 ((s.d : Nat) : Int) (isub .i64 24 (imul .i64 8 (irem 15 4)))), IntKind.wrap .u8 (ishr .u32 ((s.e : Nat) : Int) (isub .i64 24 (imul .i64 8 (irem 16 4)))), IntKind.wrap .u8 (ishr .u32 ((s.e : Nat) : Int) (isub .i64 24 (imul .i64 8 (irem 17 4)))), IntKind.wrap .u8 (ishr .u32 ((s.e : Nat) : Int) (isub .i64 24 (imul .i64 8 (irem 18 4)))), IntKind.wrap .u8 (ishr .u32 ((s.e : Nat) : Int) (isub .i64 24 (imul .i64 8 (irem 19 4)))), IntKind.wrap .u8 (ishr .u32 ((s.f : Nat) : Int) (isub .i64 24 (imul .i64 8 (irem 20 4)))), IntKind.wrap .u8 (ishr .u32 ((s.f : Nat) : Int) (isub .i64 24 (imul .i64 8 (irem 21 4)))), IntKind.wrap .u8 (ishr .u32 ((s.f : Nat) : Int) (isub .i64 24 (imul .i64 8 (irem 22 4)))), IntKind.wrap .u8 (ishr .u32 ((s.f : Nat) : Int) (isub .i64 24 (imul .i64 8 (irem 23 4)))), IntKind.wrap .u8 (ishr .u32 ((s.g : Nat) : Int) (isub .i64 24 (imul .i64 8 (irem 24 4)))), IntKind.wrap .u8 (ishr .u32 ((s.g : Nat) : Int) (isub .i64 24 (imul .i64 8 (irem 25 4)))), IntKind.wrap .u8 (ishr .u32 ((s.g : Nat) : Int) (isub .i64 24 (imul .i64 8 (irem 26 4)))), IntKind.wrap .u8 (ishr .u32 ((s.g : Nat) : Int) (isub .i64 24 (imul .i64 8 (irem 27 4)))), IntKind.wrap .u8 (ishr .u32 ((s.h : Nat) : Int) (isub .i64 24 (imul .i64 8 (irem 28 4)))), IntKind.wrap .u8 (ishr .u32 ((s.h : Nat) : Int) (isub .i64 24 (imul .i64 8 (irem 29 4)))), IntKind.wrap .u8 (ishr .u32 ((s.h : Nat) : Int) (isub .i64 24 (imul .i64 8 (irem 30 4)))), IntKind.wrap .u8 (ishr .u32 ((s.h : Nat) : Int) (isub .i64 24 (imul .i64 8 (irem 31 4))))] = nI s.bytes := by
 simp only [sh_is _ (show 24 ≤ 32 by omega) (show (isub .i64 24 (imul .i64 8 (irem 0 4))) = ((24 : Nat) : Int) from rfl), sh_is _ (show 16 ≤ 32 by omega) (show (isub .i64 24 (imul .i64 8 (irem 1 4))) = ((16 : Nat) : Int) from rfl), sh_is _ (show 8 ≤ 32 by omega) (show (isub .i64 24 (imul .i64 8 (irem 2 4))) = ((8 : Nat) : Int) from rfl), sh_is _ (show 0 ≤ 32 by omega) (show (isub .i64 24 (imul .i64 8 (irem 3 4))) = ((0 : Nat) : Int) from rfl), sh_is _ (show 24 ≤ 32 by omega) (show (isub .i64 24 (imul .i64 8 (irem 4 4))) = ((24 : Nat) : Int) from rfl), sh_is _ (show 16 ≤ 32 by omega) (show (isub .i64 24 (imul .i64 8 (irem 5 4))) = ((16 : Nat) : Int) from rfl), sh_is _ (show 8 ≤ 32 by omega) (show (isub .i64 24 (imul .i64 8 (irem 6 4))) = ((8 : Nat) : Int) from rfl), sh_is _ (show 0 ≤ 32 by omega) (show (isub .i64 24 (imul .i64 8 (irem 7 4))) = ((0 : Nat) : Int) from rfl), sh_is _ (show 24 ≤ 32 by omega) (show (isub .i64 24 (imul .i64 8 (irem 8 4))) = ((24 : Nat) : Int) from rfl), sh_is _ (show 16 ≤ 32 by omega) (show (isub .i64 24 (imul .i64 8 (irem 9 4))) = ((16 : Nat) : Int) from rfl), sh_is _ (show 8 ≤ 32 by omega) (show (isub .i64 24 (imul .i64 8 (irem 10 4))) = ((8 : Nat) : Int) from rfl), sh_is _ (show 0 ≤ 32 by omega) (show (isub .i64 24 (imul .i64 8 (irem 11 4))) = ((0 : Nat) : Int) from rfl), sh_is _ (show 24 ≤ 32 by omega) (show (isub .i64 24 (imul .i64 8 (irem 12 4))) = ((24 : Nat) : Int) from rfl), sh_is _ (show 16 ≤ 32 by omega) (show (isub .i64 24 (imul .i64 8 (irem 13 4))) = ((16 : Nat) : Int) from rfl), sh_is _ (show 8 ≤ 32 by omega) (show (isub .i64 24 (imul .i64 8 (irem 14 4))) = ((8 : Nat) : Int) from rfl), sh_is _ (show 0 ≤ 32 by omega) (show (isub .i64 24 (imul .i64 8 (irem 15 4))) = ((0 : Nat) : Int) from rfl), sh_is _ (show 24 ≤ 32 by omega) (show (isub .i64 24 (imul .i64 8 (irem 16 4))) = ((24 : Nat) : Int) from rfl), sh_is _ (show 16 ≤ 32 by omega) (show (isub .i64 24 (imul .i64 8 (irem 17 4))) = ((16 : Nat) : Int) from rfl), sh_is _ (show 8 ≤ 32 by omega) (show (isub .i64 24 (imul .i64 8 (irem 18 4))) = ((8 : Nat) : Int) from rfl), sh_is _ (show 0 ≤ 32 by omega) (show (isub .i64 24 (imul .i64 8 (irem 19 4))) = ((0 : Nat) : Int) from rfl), sh_is _ (show 24 ≤ 32 by omega) (show (isub .i64 24 (imul .i64 8 (irem 20 4))) = ((24 : Nat) : Int) from rfl), sh_is _ (show 16 ≤ 32 by omega) (show (isub .i64 24 (imul .i64 8 (irem 21 4))) = ((16 : Nat) : Int) from rfl), sh_is _ (show 8 ≤ 32 by omega) (show (isub .i64 24 (imul .i64 8 (irem 22 4))) = ((8 : Nat) : Int) from rfl), sh_is _ (show 0 ≤ 32 by omega) (show (isub .i64 24 (imul .i64 8 (irem 23 4))) = ((0 : Nat) : Int) from rfl), sh_is _ (show 24 ≤ 32 by omega) (show (isub .i64 24 (imul .i64 8 (irem 24 4))) = ((24 : Nat) : Int) from rfl), sh_is _ (show 16 ≤ 32 by omega) (show (isub .i64 24 (imul .i64 8 (irem 25 4))) = ((16 : Nat) : Int) from rfl), sh_is _ (show 8 ≤ 32 by omega) (show (isub .i64 24 (imul .i64 8 (irem 26 4))) = ((8 : Nat) : Int) from rfl), sh_is _ (show 0 ≤ 32 by omega) (show (isub .i64 24 (imul .i64 8 (irem 27 4))) = ((0 : Nat) : Int) from rfl), sh_is _ (show 24 ≤ 32 by omega) (show (isub .i64 24 (imul .i64 8 (irem 28 4))) = ((24 : Nat) : Int) from rfl), sh_is _ (show 16 ≤ 32 by omega) (show (isub .i64 24 (imul .i64 8 (irem 29 4))) = ((16 : Nat) : Int) from rfl), sh_is _ (show 8 ≤ 32 by omega) (show (isub .i64 24 (imul .i64 8 (irem 30 4))) = ((8 : Nat) : Int) from rfl), sh_is _ (show 0 ≤ 32 by omega) (show (isub .i64 24 (imul .i64 8 (irem 31 4))) = ((0 : Nat) : Int) from rfl), Nat.pow_zero, Nat.div_one]
 rfl
theorem prg_bytes (s : S8) : [IntKind.wrap .u8 (ishr .u32 ((s.a : Nat) : Int) (imul .i64 8 (isub .i64 3 (irem 0 4)))), IntKind.wrap .u8 (ishr .u32 ((s.a : Nat) : Int) (imul .i64 8 (isub .i64 3 (irem 1 4)))), IntKind.wrap .u8 (ishr .u32 ((s.a : Nat) : Int) (imul .i64 8 (isub .i64 3 (irem 2 4)))), IntKind.wrap .u8 (ishr .u32 ((s.a : Nat) : Int) (imul .i64 8 (isub .i64 3 (irem 3 4)))), IntKind.wrap .u8 (ishr .u32 ((s.b : Nat) : Int) (imul .i64 8 (isub .i64 3 (irem 4 4)))), IntKind.wrap .u8 (ishr .u32 ((s.b : Nat) : Int) (imul .i64 8 (isub .i64 3 (irem 5 4)))), IntKind.wrap .u8 (ishr .u32 ((s.b : Nat) : Int) (imul .i64 8 (isub .i64 3 (irem 6 4)))), IntKind.wrap .u8 (ishr .u32 ((s.b : Nat) : Int) (imul .i64 8 (isub .i64 3 (irem 7 4)))), IntKind.wrap .u8 (ishr .u32 ((s.c : Nat) : Int) (imul .i64 8 (isub .i64 3 (irem 8 4)))), IntKind.wrap .u8 (ishr .u32 ((s.c : Nat) : Int) (imul .i64 8 (isub .i64 3 (irem 9 4)))), IntKind.wrap .u8 (ishr .u32 ((s.c : Nat) : Int) (imul .i64 8 (isub .i64 3 (irem 10 4)))), IntKind.wrap .u8 (ishr .u32 ((s.c : Nat) : Int) (imul .i64 8 (isub .i64 3 (irem 11 4)))), IntKind.wrap .u8 (ishr .u32 ((s.d : Nat) : Int) (imul .i64 8 (isub .i64 3 (irem 12 4)))), IntKind.wrap .u8 (ishr .u32 ((s.d : Nat) : Int) (imul .i64 8 (isub .i64 3 (irem 13 4)))), IntKind.wrap .u8 (ishr .u32 ((s.d : Nat) : Int) (imul .i64 8 (isub .i64 3 (irem 14 4)))), IntKind.wrap .u8 (ishr .u32 ((s.d : Nat) : Int) (imul .i64 8 (isub .i64 3 (irem 15 4)))), IntKind.wrap .u8 (ishr .u32 ((s.e : Nat) : Int) (imul .i64 8 (isub .i64 3 (irem 16 4)))), IntKind.wrap .u8 (ishr .u32 ((s.e : Nat) : Int) (imul .i64 8 (isub .i64 3 (irem 17 4)))), IntKind.wrap .u8 (ishr .u32 ((s.e : Nat) : Int) (imul .i64 8 (isub .i64 3 (irem 18 4)))), IntKind.wrap .u8 (ishr .u32 ((s.e : Nat) : Int) (imul .i64 8 (isub .i64 3 (irem 19 4)))), IntKind.wrap .u8 (ishr .u32 ((s.f : Nat) : Int) (imul .i64 8 (isub .i64 3 (irem 20 4)))), IntKind.wrap .u8 (ishr .u32 ((s.f : Nat) : Int) (imul .i64 8 (isub .i64 3 (irem 21 4)))), IntKind.wrap .u8 (ishr .u32 ((s.f : Nat) : Int) (imul .i64 8 (isub .i64 3 (irem 22 4)))), IntKind.wrap .u8 (ishr .u32 ((s.f : Nat) : Int) (imul .i64 8 (isub .i64 3 (irem 23 4)))), IntKind.wrap .u8 (ishr .u32 ((s.g : Nat) : Int) (imul .i64 8 (isub .i64 3 (irem 24 4)))), IntKind.wrap .u8 (ishr .u32 ((s.g : Nat) : Int) (imul .i64 8 (isub .i64 3 (irem 25 4)))), IntKind.wrap .u8 (ishr .u32 ((s.g : Nat) : Int) (imul .i64 8 (isub .i64 3 (irem 26 4)))), IntKind.wrap .u8 (ishr .u32 ((s.g : Nat) : Int) (imul .i64 8 (isub .i64 3 (irem 27 4)))), IntKind.wrap .u8 (ishr .u32 ((s.h : Nat) : Int) (imul .i64 8 (isub .i64 3 (irem 28 4)))), IntKind.wrap .u8 (ishr .u32 ((s.h : Nat) : Int) (imul .i64 8 (isub .i64 3 (irem 29 4)))), IntKind.wrap .u8 (ishr .u32 ((s.h : Nat) : Int) (imul .i64 8 (isub .i64 3 (irem 30 4)))), IntKind.wrap .u8 (ishr .u32 ((s.h : Nat) : Int) (imul .i64 8 (isub .i64 3 (irem 31 4))))] = nI s.bytes := by
 simp only [sh_is _ (show 24 ≤ 32 by omega) (show (imul .i64 8 (isub .i64 3 (irem 0 4))) = ((24 : Nat) : Int) from rfl), sh_is _ (show 16 ≤ 32 by omega) (show (imul .i64 8 (isub .i64 3 (irem 1 4))) = ((16 : Nat) : Int) from rfl), sh_is _ (show 8 ≤ 32 by omega) (show (imul .i64 8 (isub .i64 3 (irem 2 4))) = ((8 : Nat) : Int) from rfl), sh_is _ (show 0 ≤ 32 by omega) (show (imul .i64 8 (isub .i64 3 (irem 3 4))) = ((0 : Nat) : Int) from rfl), sh_is _ (show 24 ≤ 32 by omega) (show (imul .i64 8 (isub .i64 3 (irem 4 4))) = ((24 : Nat) : Int) from rfl), sh_is _ (show 16 ≤ 32 by omega) (show (imul .i64 8 (isub .i64 3 (irem 5 4))) = ((16 : Nat) : Int) from rfl), sh_is _ (show 8 ≤ 32 by omega) (show (imul .i64 8 (isub .i64 3 (irem 6 4))) = ((8 : Nat) : Int) from rfl), sh_is _ (show 0 ≤ 32 by omega) (show (imul .i64 8 (isub .i64 3 (irem 7 4))) = ((0 : Nat) : Int) from rfl), sh_is _ (show 24 ≤ 32 by omega) (show (imul .i64 8 (isub .i64 3 (irem 8 4))) = ((24 : Nat) : Int) from rfl), sh_is _ (show 16 ≤ 32 by omega) (show (imul .i64 8 (isub .i64 3 (irem 9 4))) = ((16 : Nat) : Int) from rfl), sh_is _ (show 8 ≤ 32 by omega) (show (imul .i64 8 (isub .i64 3 (irem 10 4))) = ((8 : Nat) : Int) from rfl), sh_is _ (show 0 ≤ 32 by omega) (show (imul .i64 8 (isub .i64 3 (irem 11 4))) = ((0 : Nat) : Int) from rfl), sh_is _ (show 24 ≤ 32 by omega) (show (imul .i64 8 (isub .i64 3 (irem 12 4))) = ((24 : Nat) : Int) from rfl), sh_is _ (show 16 ≤ 32 by omega) (show (imul .i64 8 (isub .i64 3 (irem 13 4))) = ((16 : Nat) : Int) from rfl), sh_is _ (show 8 ≤ 32 by omega) (show (imul .i64 8 (isub .i64 3 (irem 14 4))) = ((8 : Nat) : Int) from rfl), sh_is _ (show 0 ≤ 32 by omega) (show (imul .i64 8 (isub .i64 3 (irem 15 4))) = ((0 : Nat) : Int) from rfl), sh_is _ (show 24 ≤ 32 by omega) (show (imul .i64 8 (isub .i64 3 (irem 16 4))) = ((24 : Nat) : Int) from rfl), sh_is _ (show 16 ≤ 32 by omega) (show (imul .i64 8 (isub .i64 3 (irem 17 4))) = ((16 : Nat) : Int) from rfl), sh_is _ (show 8 ≤ 32 by omega) (show (imul .i64 8 (isub .i64 3 (irem 18 4))) = ((8 : Nat) : Int) from rfl), sh_is _ (show 0 ≤ 32 by omega) (show (imul .i64 8 (isub .i64 3 (irem 19 4))) = ((0 : Nat) : Int) from rfl), sh_is _ (show 24 ≤ 32 by omega) (show (imul .i64 8 (isub .i64 3 (irem 20 4))) = ((24 : Nat) : Int) from rfl), sh_is _ (show 16 ≤ 32 by omega) (show (imul .i64 8 (isub .i64 3 (irem 21 4))) = ((16 : Nat) : Int) from rfl), sh_is _ (show 8 ≤ 32 by omega) (show (imul .i64 8 (isub .i64 3 (irem 22 4))) = ((8 : Nat) : Int) from rfl), sh_is _ (show 0 ≤ 32 by omega) (show (imul .i64 8 (isub .i64 3 (irem 23 4))) = ((0 : Nat) : Int) from rfl), sh_is _ (show 24 ≤ 32 by omega) (show (imul .i64 8 (isub .i64 3 (irem 24 4))) = ((24 : Nat) : Int) from rfl), sh_is _ (show 16 ≤ 32 by omega) (show (imul .i64 8 (isub .i64 3 (irem 25 4))) = ((16 : Nat) : Int) from rfl), sh_is _ (show 8 ≤ 32 by omega) (show (imul .i64 8 (isub .i64 3 (irem 26 4))) = ((8 : Nat) : Int) from rfl), sh_is _ (show 0 ≤ 32 by omega) (show (imul .i64 8 (isub .i64 3 (irem 27 4))) = ((0 : Nat) : Int) from rfl), sh_is _ (show 24 ≤ 32 by omega) (show (imul .i64 8 (isub .i64 3 (irem 28 4))) = ((24 : Nat) : Int) from rfl), sh_is _ (show 16 ≤ 32 by omega) (show (imul .i64 8 (isub .i64 3 (irem 29 4))) = ((16 : Nat) : Int) from rfl), sh_is _ (show 8 ≤ 32 by omega) (show (imul .i64 8 (isub .i64 3 (irem 30 4))) = ((8 : Nat) : Int) from rfl), sh_is _ (show 0 ≤ 32 by omega) (show (imul .i64 8 (isub .i64 3 (irem 31 4))) = ((0 : Nat) : Int) from rfl), Nat.pow_zero, Nat.div_one]
 rfl
end
end Go.Proofs.YtciafmcbccgggaaE
