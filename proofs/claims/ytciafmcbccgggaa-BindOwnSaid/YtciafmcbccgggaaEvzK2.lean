/- SHA-256: the program's block is the reference's; digests. -/
import Derived.Test.YtciafmcbccgggaaEvzK1
namespace Go.Proofs.YtciafmcbccgggaaE
open Go
set_option linter.unusedSimpArgs false
set_option linter.unusedVariables false
def z64 : List Nat := List.replicate 64 0
theorem bel_rep {m n : Nat} (hm : 0 < m) : bel m (List.replicate n 0) := fun x hx => by rw [List.eq_of_mem_replicate hx]; exact hm
def s2W (B : List Nat) : List Nat := s2sp B 64 0 z64
theorem s2W_len (B : List Nat) : (s2W B).length = 64 := by unfold s2W; rw [s2sp_len]; rfl
def s2K : List Nat := [1116352408, 1899447441, 3049323471, 3921009573, 961987163, 1508970993, 2453635748, 2870763221, 3624381080, 310598401, 607225278, 1426881987, 1925078388, 2162078206, 2614888103, 3248222580, 3835390401, 4022224774, 264347078, 604807628, 770255983, 1249150122, 1555081692, 1996064986, 2554220882, 2821834349, 2952996808, 3210313671, 3336571891, 3584528711, 113926993, 338241895, 666307205, 773529912, 1294757372, 1396182291, 1695183700, 1986661051, 2177026350, 2456956037, 2730485921, 2820302411, 3259730800, 3345764771, 3516065817, 3600352804, 4094571909, 275423344, 430227734, 506948616, 659060556, 883997877, 958139571, 1322822218, 1537002063, 1747873779, 1955562222, 2024104815, 2227730452, 2361852424, 2428436474, 2756734187, 3204031479, 3329325298]
theorem s2K_len : s2K.length = 64 := rfl
def s2add (s t : S8) : S8 := ⟨(t.a + s.a) % 4294967296, (t.b + s.b) % 4294967296, (t.c + s.c) % 4294967296, (t.d + s.d) % 4294967296, (t.e + s.e) % 4294967296, (t.f + s.f) % 4294967296, (t.g + s.g) % 4294967296, (t.h + s.h) % 4294967296⟩
theorem s2add_ok (s t : S8) : (s2add s t).ok := ⟨mod32 _, mod32 _, mod32 _, mod32 _, mod32 _, mod32 _, mod32 _, mod32 _⟩
def s2blk (s : S8) (B : List Nat) : S8 := s2add s (s2run (s2W B) s2K 64 0 s)
theorem s2blk_ok (s : S8) (B : List Nat) : (s2blk s B).ok := by rw [s2blk]; exact s2add_ok _ _
theorem s8l_len (s : S8) : s.l.length = 8 := by rw [S8.l]; simp only [List.length_cons, List.length_nil]
section
variable {c230 : Int → Int → Int → Int → Option Int} {c231 : Option (List Int)} {c232 : Int → Int → Int → Int → Option Int} {c21 : List Int → Bool → Option (Int × Int)} {c238 : List Int → Int → Option Int} {c235 : List Int → Option (List Int)} {c236 : List Int → Int → Option (List Int)} {c83 : Int → Int → Option (List Int)} {c229 : List Int → List Int → List Int → Option (List Int)}
theorem L229_1_is (q : List Int → List Int → Option (List Int)) (v28 : List Int) (s0 s1 s2 s3 s4 s5 s6 s7 t0 t1 t2 t3 t4 t5 t6 t7 : Int) :
    L229_1 c235 c236 100 q 100 0 [s0, s1, s2, s3, s4, s5, s6, s7] v28 [t0, t1, t2, t3, t4, t5, t6, t7] = q v28 [iadd .u32 t0 s0, iadd .u32 t1 s1, iadd .u32 t2 s2, iadd .u32 t3 s3, iadd .u32 t4 s4, iadd .u32 t5 s5, iadd .u32 t6 s6, iadd .u32 t7 s7] := by kernel_rfl
theorem add8 (s t : S8) : [iadd .u32 ((t.a : Nat) : Int) ((s.a : Nat) : Int), iadd .u32 ((t.b : Nat) : Int) ((s.b : Nat) : Int), iadd .u32 ((t.c : Nat) : Int) ((s.c : Nat) : Int), iadd .u32 ((t.d : Nat) : Int) ((s.d : Nat) : Int), iadd .u32 ((t.e : Nat) : Int) ((s.e : Nat) : Int), iadd .u32 ((t.f : Nat) : Int) ((s.f : Nat) : Int), iadd .u32 ((t.g : Nat) : Int) ((s.g : Nat) : Int), iadd .u32 ((t.h : Nat) : Int) ((s.h : Nat) : Int)] = nI (s2add s t).l := by
  simp only [add32]; rw [s2add, nI8]
theorem p235_is (F1 : ∀ x : Nat, x < 4294967296 → c238 [7, 18, 3] (x : Int) = some ((s2sm x 25 14 3 : Nat) : Int)) (F2 : ∀ x : Nat, x < 4294967296 → c238 [17, 19, 10] (x : Int) = some ((s2sm x 15 13 10 : Nat) : Int))
    (Gt : ∀ a b c d : Nat, a < 256 → b < 256 → c < 256 → d < 256 → c21 [(a : Int), (b : Int), (c : Int), (d : Int)] false = some (((a * 16777216 + b * 65536 + c * 256 + d : Nat) : Int), 0))
    {B : List Nat} (hB : bel 256 B) (hl : B.length = 64) : p235 c21 c238 100 (nI B) = some (nI (s2W B)) := by
  unfold p235
  have hz : ([(0 : Int), (0 : Int), (0 : Int), (0 : Int), (0 : Int), (0 : Int), (0 : Int), (0 : Int), (0 : Int), (0 : Int), (0 : Int), (0 : Int), (0 : Int), (0 : Int), (0 : Int), (0 : Int), (0 : Int), (0 : Int), (0 : Int), (0 : Int), (0 : Int), (0 : Int), (0 : Int), (0 : Int), (0 : Int), (0 : Int), (0 : Int), (0 : Int), (0 : Int), (0 : Int), (0 : Int), (0 : Int), (0 : Int), (0 : Int), (0 : Int), (0 : Int), (0 : Int), (0 : Int), (0 : Int), (0 : Int), (0 : Int), (0 : Int), (0 : Int), (0 : Int), (0 : Int), (0 : Int), (0 : Int), (0 : Int), (0 : Int), (0 : Int), (0 : Int), (0 : Int), (0 : Int), (0 : Int), (0 : Int), (0 : Int), (0 : Int), (0 : Int), (0 : Int), (0 : Int), (0 : Int), (0 : Int), (0 : Int), (0 : Int)] : List Int) = nI z64 := by rfl
  rw [hz]
  refine (L235_is F1 F2 Gt 100 _ B hB hl (nI z64) 64 0 100 z64 (by omega) (by omega) (bel_rep (by omega)) rfl).trans ?_
  exact row_fin (k := 64) rfl (by rw [nI_len]; exact s2W_len B)
theorem h8 (s : S8) : List.take 8 (List.drop 0 (nI s.l)) = nI s.l := by rw [List.drop_zero, List.take_of_length_le (by rw [nI_len, s8l_len]; omega)]
theorem d8 (s : S8) : List.drop 8 (nI s.l) = [] := List.drop_of_length_le (by rw [nI_len, s8l_len]; omega)
theorem p229_is (F : ∀ (s : S8) (x : Nat), s.ok → c236 (nI s.l) (x : Int) = some (nI (s2step1 s x).l))
    (FW : ∀ B : List Nat, bel 256 B → B.length = 64 → c235 (nI B) = some (nI (s2W B))) {s : S8} {B : List Nat} (hs : s.ok) (hB : bel 256 B) (hl : B.length = 64) :
    p229 c235 c236 100 (nI s.l) (nI B) (nI s2K) = some (nI (s2blk s B).l) := by
  have h1 : List.take 64 (List.drop 0 (nI B)) = nI B := by rw [List.drop_zero, List.take_of_length_le (by rw [nI_len]; omega)]
  unfold p229
  rw [h1, FW B hB hl, h8]
  simp only [nI_len, hl, s8l_len, Nat.le_refl, decide_true, cond_true, beq_self_eq_true, Nat.zero_add]
  rw [List.nil_append, show List.drop 8 [(0 : Int), (0 : Int), (0 : Int), (0 : Int), (0 : Int), (0 : Int), (0 : Int), (0 : Int)] = ([] : List Int) from rfl, List.append_nil]
  refine (L229_0_is F 100 _ (nI s.l) [(0 : Int), (0 : Int), (0 : Int), (0 : Int), (0 : Int), (0 : Int), (0 : Int), (0 : Int)] (s2W B) s2K (s2W_len B) s2K_len 64 0 100 s (by omega) (by omega) hs).trans ?_
  rw [s2blk]
  generalize s2run (s2W B) s2K 64 0 s = t
  rw [nI8 s, nI8 t]
  refine (L229_1_is _ _ _ _ _ _ _ _ _ _ _ _ _ _ _ _ _ _).trans ?_
  rw [add8]
  exact row_fin (k := 8) rfl (by rw [nI_len, s8l_len])
end
def h78 (n d : Int) := p78 h75 0 n d
theorem E78 : EntOK FT XT 78 (en78 h78) := ok78 h75 E75 fun _ _ _ h => ⟨0, h⟩
def h81 (n : Int) := p81 1000 n
theorem E81 : EntOK FT XT 81 (en81 h81) := ok81 fun _ _ h => ⟨1000, h⟩
def h83 (n d : Int) := p83 h81 h78 100 n d
theorem E83 : EntOK FT XT 83 (en83 h83) := ok83 h81 h78 E81 E78 fun _ _ _ h => ⟨100, h⟩
theorem h83_K : h83 64 3 = some (nI s2K) := by kernel_rfl
def s2I : S8 := ⟨1779033703, 3144134277, 1013904242, 2773480762, 1359893119, 2600822924, 528734635, 1541459225⟩
theorem s2I_ok : s2I.ok := ⟨by decide, by decide, by decide, by decide, by decide, by decide, by decide, by decide⟩
theorem h83_I : h83 8 2 = some (nI s2I.l) := by kernel_rfl
def h235 (l : List Int) := p235 h21 h238 100 l
theorem E235 : EntOK FT XT 235 (en235 h235) := ok235 h21 h238 E21 E238 fun _ _ h => ⟨100, h⟩
theorem h235_is {B : List Nat} (hB : bel 256 B) (hl : B.length = 64) : h235 (nI B) = some (nI (s2W B)) := p235_is (fun x hx => sm1 hx) (fun x hx => sm2 hx) (fun a b c d ha hb hc hd => get_be ha hb hc hd) hB hl
def h229 (s b k : List Int) := p229 h235 h236 100 s b k
theorem E229 : EntOK FT XT 229 (en229 h229) := ok229 h235 h236 E235 E236 fun _ _ _ _ h => ⟨100, h⟩
theorem h229_is {s : S8} {B : List Nat} (hs : s.ok) (hB : bel 256 B) (hl : B.length = 64) : h229 (nI s.l) (nI B) (nI s2K) = some (nI (s2blk s B).l) :=
  p229_is (fun s x hs => h236_is hs x) (fun B hB hl => h235_is hB hl) hs hB hl
def h219 := p219 h83 0
theorem E219 : EntOK FT XT 219 (en219 h219) := ok219 h83 E83 fun _ h => ⟨0, h⟩
theorem h219_is : h219 = some (nI s2I.l) := by
  unfold h219 p219
  rw [h83_I]
  rfl
def s2blks : Nat → S8 → List Nat → S8
  | 0, s, _ => s
  | n + 1, s, l => s2blks n (s2blk s (l.take 64)) (l.drop 64)
def S8.bytes (s : S8) : List Nat := s.l.flatMap be4
theorem flatMap_be4_len : ∀ l : List Nat, (l.flatMap be4).length = 4 * l.length
  | [] => rfl
  | x :: l => by rw [List.flatMap_cons, List.length_append, flatMap_be4_len l, List.length_cons]; show 4 + _ = _; omega
section
variable {c46 : List (List Int) → Option (List Int)} {c217 c218 : Int → Option (List Int)} {c219 c220 : Option (List Int)} {c83 : Int → Int → Option (List Int)} {c229 : List Int → List Int → List Int → Option (List Int)} {c216 : List Int → List Int → Option (List Int)}
theorem L213_0_is (F : ∀ (s : S8) (B : List Nat), s.ok → bel 256 B → B.length = 64 → c229 (nI s.l) (nI B) (nI s2K) = some (nI (s2blk s B).l)) (N : Nat) (q : List Int → List Int → Option (List Int)) (v7 : List Int) :
    ∀ (n fuel : Nat) (l : List Nat) (s : S8), l.length = 64 * n → n < fuel → bel 256 l → s.ok → n < 2 ^ 40 → L213_0 c46 c217 c219 c83 c229 N q fuel (nI l) (nI s2K) v7 (nI s.l) = q v7 (nI (s2blks n s l).l) := by
  intro n
  induction n with
  | zero =>
    intro fuel l s hl hf hb hs h40
    obtain ⟨m, rfl⟩ : ∃ m, fuel = m + 1 := ⟨fuel - 1, by omega⟩
    obtain rfl : l = [] := List.length_eq_zero_iff.1 (by omega)
    rw [s2blks]
    rfl
  | succ n ih =>
    intro fuel l s hl hf hb hs h40
    obtain ⟨m, rfl⟩ : ∃ m, fuel = m + 1 := ⟨fuel - 1, by omega⟩
    have h64 : List.take 64 (List.drop 0 (List.take 64 (nI l))) = nI (l.take 64) := by rw [List.drop_zero, List.take_take, Nat.min_self, nI_take]
    have htl : (List.take 64 (nI l)).length = 64 := by rw [List.length_take, nI_len]; omega
    have key := ih m (l.drop 64) (s2blk s (l.take 64)) (by rw [List.length_drop]; omega) (by omega) (bel_drop hb) (s2blk_ok _ _) (by omega)
    have hc := F s (l.take 64) hs (bel_take hb) (by rw [List.length_take]; omega)
    rw [s2blks]
    generalize s2blk s (l.take 64) = t at *
    simp only [L213_0, nI_len, show ((l.length : Nat) : Int) > 0 by omega, decide_true, cond_true, s8l_len, Nat.le_refl, show (64 : Int) ≤ ((l.length : Nat) : Int) by omega, htl, h8, h64, hc, beq_self_eq_true, Nat.zero_add, take0, List.nil_append]
    rw [d8, List.append_nil, nI_drop]
    exact key
theorem L213_1_is (q : List Int → List Int → Option (List Int)) (v26 : List Int) (s0 s1 s2 s3 s4 s5 s6 s7 : Int) :
    L213_1 c46 c217 c219 c83 c229 100 q 100 0 v26 [s0, s1, s2, s3, s4, s5, s6, s7] [(0 : Int), (0 : Int), (0 : Int), (0 : Int), (0 : Int), (0 : Int), (0 : Int), (0 : Int), (0 : Int), (0 : Int), (0 : Int), (0 : Int), (0 : Int), (0 : Int), (0 : Int), (0 : Int), (0 : Int), (0 : Int), (0 : Int), (0 : Int), (0 : Int), (0 : Int), (0 : Int), (0 : Int), (0 : Int), (0 : Int), (0 : Int), (0 : Int), (0 : Int), (0 : Int), (0 : Int), (0 : Int)] = q v26 [IntKind.wrap .u8 (ishr .u32 s0 (imul .i64 8 (isub .i64 3 (irem 0 4)))), IntKind.wrap .u8 (ishr .u32 s0 (imul .i64 8 (isub .i64 3 (irem 1 4)))), IntKind.wrap .u8 (ishr .u32 s0 (imul .i64 8 (isub .i64 3 (irem 2 4)))), IntKind.wrap .u8 (ishr .u32 s0 (imul .i64 8 (isub .i64 3 (irem 3 4)))), IntKind.wrap .u8 (ishr .u32 s1 (imul .i64 8 (isub .i64 3 (irem 4 4)))), IntKind.wrap .u8 (ishr .u32 s1 (imul .i64 8 (isub .i64 3 (irem 5 4)))), IntKind.wrap .u8 (ishr .u32 s1 (imul .i64 8 (isub .i64 3 (irem 6 4)))), IntKind.wrap .u8 (ishr .u32 s1 (imul .i64 8 (isub .i64 3 (irem 7 4)))), IntKind.wrap .u8 (ishr .u32 s2 (imul .i64 8 (isub .i64 3 (irem 8 4)))), IntKind.wrap .u8 (ishr .u32 s2 (imul .i64 8 (isub .i64 3 (irem 9 4)))), IntKind.wrap .u8 (ishr .u32 s2 (imul .i64 8 (isub .i64 3 (irem 10 4)))), IntKind.wrap .u8 (ishr .u32 s2 (imul .i64 8 (isub .i64 3 (irem 11 4)))), IntKind.wrap .u8 (ishr .u32 s3 (imul .i64 8 (isub .i64 3 (irem 12 4)))), IntKind.wrap .u8 (ishr .u32 s3 (imul .i64 8 (isub .i64 3 (irem 13 4)))), IntKind.wrap .u8 (ishr .u32 s3 (imul .i64 8 (isub .i64 3 (irem 14 4)))), IntKind.wrap .u8 (ishr .u32 s3 (imul .i64 8 (isub .i64 3 (irem 15 4)))), IntKind.wrap .u8 (ishr .u32 s4 (imul .i64 8 (isub .i64 3 (irem 16 4)))), IntKind.wrap .u8 (ishr .u32 s4 (imul .i64 8 (isub .i64 3 (irem 17 4)))), IntKind.wrap .u8 (ishr .u32 s4 (imul .i64 8 (isub .i64 3 (irem 18 4)))), IntKind.wrap .u8 (ishr .u32 s4 (imul .i64 8 (isub .i64 3 (irem 19 4)))), IntKind.wrap .u8 (ishr .u32 s5 (imul .i64 8 (isub .i64 3 (irem 20 4)))), IntKind.wrap .u8 (ishr .u32 s5 (imul .i64 8 (isub .i64 3 (irem 21 4)))), IntKind.wrap .u8 (ishr .u32 s5 (imul .i64 8 (isub .i64 3 (irem 22 4)))), IntKind.wrap .u8 (ishr .u32 s5 (imul .i64 8 (isub .i64 3 (irem 23 4)))), IntKind.wrap .u8 (ishr .u32 s6 (imul .i64 8 (isub .i64 3 (irem 24 4)))), IntKind.wrap .u8 (ishr .u32 s6 (imul .i64 8 (isub .i64 3 (irem 25 4)))), IntKind.wrap .u8 (ishr .u32 s6 (imul .i64 8 (isub .i64 3 (irem 26 4)))), IntKind.wrap .u8 (ishr .u32 s6 (imul .i64 8 (isub .i64 3 (irem 27 4)))), IntKind.wrap .u8 (ishr .u32 s7 (imul .i64 8 (isub .i64 3 (irem 28 4)))), IntKind.wrap .u8 (ishr .u32 s7 (imul .i64 8 (isub .i64 3 (irem 29 4)))), IntKind.wrap .u8 (ishr .u32 s7 (imul .i64 8 (isub .i64 3 (irem 30 4)))), IntKind.wrap .u8 (ishr .u32 s7 (imul .i64 8 (isub .i64 3 (irem 31 4))))] := by kernel_rfl
theorem sh_is (x : Nat) {k : Nat} (hk : k ≤ 32) {e : Int} (he : e = ((k : Nat) : Int)) : IntKind.wrap .u8 (ishr .u32 (x : Int) e) = ((x / 2 ^ k % 256 : Nat) : Int) := by
  rw [he, shr32n hk, w8]
theorem prg_bytes (s : S8) : [IntKind.wrap .u8 (ishr .u32 ((s.a : Nat) : Int) (imul .i64 8 (isub .i64 3 (irem 0 4)))), IntKind.wrap .u8 (ishr .u32 ((s.a : Nat) : Int) (imul .i64 8 (isub .i64 3 (irem 1 4)))), IntKind.wrap .u8 (ishr .u32 ((s.a : Nat) : Int) (imul .i64 8 (isub .i64 3 (irem 2 4)))), IntKind.wrap .u8 (ishr .u32 ((s.a : Nat) : Int) (imul .i64 8 (isub .i64 3 (irem 3 4)))), IntKind.wrap .u8 (ishr .u32 ((s.b : Nat) : Int) (imul .i64 8 (isub .i64 3 (irem 4 4)))), IntKind.wrap .u8 (ishr .u32 ((s.b : Nat) : Int) (imul .i64 8 (isub .i64 3 (irem 5 4)))), IntKind.wrap .u8 (ishr .u32 ((s.b : Nat) : Int) (imul .i64 8 (isub .i64 3 (irem 6 4)))), IntKind.wrap .u8 (ishr .u32 ((s.b : Nat) : Int) (imul .i64 8 (isub .i64 3 (irem 7 4)))), IntKind.wrap .u8 (ishr .u32 ((s.c : Nat) : Int) (imul .i64 8 (isub .i64 3 (irem 8 4)))), IntKind.wrap .u8 (ishr .u32 ((s.c : Nat) : Int) (imul .i64 8 (isub .i64 3 (irem 9 4)))), IntKind.wrap .u8 (ishr .u32 ((s.c : Nat) : Int) (imul .i64 8 (isub .i64 3 (irem 10 4)))), IntKind.wrap .u8 (ishr .u32 ((s.c : Nat) : Int) (imul .i64 8 (isub .i64 3 (irem 11 4)))), IntKind.wrap .u8 (ishr .u32 ((s.d : Nat) : Int) (imul .i64 8 (isub .i64 3 (irem 12 4)))), IntKind.wrap .u8 (ishr .u32 ((s.d : Nat) : Int) (imul .i64 8 (isub .i64 3 (irem 13 4)))), IntKind.wrap .u8 (ishr .u32 ((s.d : Nat) : Int) (imul .i64 8 (isub .i64 3 (irem 14 4)))), IntKind.wrap .u8 (ishr .u32 ((s.d : Nat) : Int) (imul .i64 8 (isub .i64 3 (irem 15 4)))), IntKind.wrap .u8 (ishr .u32 ((s.e : Nat) : Int) (imul .i64 8 (isub .i64 3 (irem 16 4)))), IntKind.wrap .u8 (ishr .u32 ((s.e : Nat) : Int) (imul .i64 8 (isub .i64 3 (irem 17 4)))), IntKind.wrap .u8 (ishr .u32 ((s.e : Nat) : Int) (imul .i64 8 (isub .i64 3 (irem 18 4)))), IntKind.wrap .u8 (ishr .u32 ((s.e : Nat) : Int) (imul .i64 8 (isub .i64 3 (irem 19 4)))), IntKind.wrap .u8 (ishr .u32 ((s.f : Nat) : Int) (imul .i64 8 (isub .i64 3 (irem 20 4)))), IntKind.wrap .u8 (ishr .u32 ((s.f : Nat) : Int) (imul .i64 8 (isub .i64 3 (irem 21 4)))), IntKind.wrap .u8 (ishr .u32 ((s.f : Nat) : Int) (imul .i64 8 (isub .i64 3 (irem 22 4)))), IntKind.wrap .u8 (ishr .u32 ((s.f : Nat) : Int) (imul .i64 8 (isub .i64 3 (irem 23 4)))), IntKind.wrap .u8 (ishr .u32 ((s.g : Nat) : Int) (imul .i64 8 (isub .i64 3 (irem 24 4)))), IntKind.wrap .u8 (ishr .u32 ((s.g : Nat) : Int) (imul .i64 8 (isub .i64 3 (irem 25 4)))), IntKind.wrap .u8 (ishr .u32 ((s.g : Nat) : Int) (imul .i64 8 (isub .i64 3 (irem 26 4)))), IntKind.wrap .u8 (ishr .u32 ((s.g : Nat) : Int) (imul .i64 8 (isub .i64 3 (irem 27 4)))), IntKind.wrap .u8 (ishr .u32 ((s.h : Nat) : Int) (imul .i64 8 (isub .i64 3 (irem 28 4)))), IntKind.wrap .u8 (ishr .u32 ((s.h : Nat) : Int) (imul .i64 8 (isub .i64 3 (irem 29 4)))), IntKind.wrap .u8 (ishr .u32 ((s.h : Nat) : Int) (imul .i64 8 (isub .i64 3 (irem 30 4)))), IntKind.wrap .u8 (ishr .u32 ((s.h : Nat) : Int) (imul .i64 8 (isub .i64 3 (irem 31 4))))] = nI s.bytes := by
  simp only [sh_is _ (show 24 ≤ 32 by omega) (show (imul .i64 8 (isub .i64 3 (irem 0 4))) = ((24 : Nat) : Int) from rfl), sh_is _ (show 16 ≤ 32 by omega) (show (imul .i64 8 (isub .i64 3 (irem 1 4))) = ((16 : Nat) : Int) from rfl), sh_is _ (show 8 ≤ 32 by omega) (show (imul .i64 8 (isub .i64 3 (irem 2 4))) = ((8 : Nat) : Int) from rfl), sh_is _ (show 0 ≤ 32 by omega) (show (imul .i64 8 (isub .i64 3 (irem 3 4))) = ((0 : Nat) : Int) from rfl), sh_is _ (show 24 ≤ 32 by omega) (show (imul .i64 8 (isub .i64 3 (irem 4 4))) = ((24 : Nat) : Int) from rfl), sh_is _ (show 16 ≤ 32 by omega) (show (imul .i64 8 (isub .i64 3 (irem 5 4))) = ((16 : Nat) : Int) from rfl), sh_is _ (show 8 ≤ 32 by omega) (show (imul .i64 8 (isub .i64 3 (irem 6 4))) = ((8 : Nat) : Int) from rfl), sh_is _ (show 0 ≤ 32 by omega) (show (imul .i64 8 (isub .i64 3 (irem 7 4))) = ((0 : Nat) : Int) from rfl), sh_is _ (show 24 ≤ 32 by omega) (show (imul .i64 8 (isub .i64 3 (irem 8 4))) = ((24 : Nat) : Int) from rfl), sh_is _ (show 16 ≤ 32 by omega) (show (imul .i64 8 (isub .i64 3 (irem 9 4))) = ((16 : Nat) : Int) from rfl), sh_is _ (show 8 ≤ 32 by omega) (show (imul .i64 8 (isub .i64 3 (irem 10 4))) = ((8 : Nat) : Int) from rfl), sh_is _ (show 0 ≤ 32 by omega) (show (imul .i64 8 (isub .i64 3 (irem 11 4))) = ((0 : Nat) : Int) from rfl), sh_is _ (show 24 ≤ 32 by omega) (show (imul .i64 8 (isub .i64 3 (irem 12 4))) = ((24 : Nat) : Int) from rfl), sh_is _ (show 16 ≤ 32 by omega) (show (imul .i64 8 (isub .i64 3 (irem 13 4))) = ((16 : Nat) : Int) from rfl), sh_is _ (show 8 ≤ 32 by omega) (show (imul .i64 8 (isub .i64 3 (irem 14 4))) = ((8 : Nat) : Int) from rfl), sh_is _ (show 0 ≤ 32 by omega) (show (imul .i64 8 (isub .i64 3 (irem 15 4))) = ((0 : Nat) : Int) from rfl), sh_is _ (show 24 ≤ 32 by omega) (show (imul .i64 8 (isub .i64 3 (irem 16 4))) = ((24 : Nat) : Int) from rfl), sh_is _ (show 16 ≤ 32 by omega) (show (imul .i64 8 (isub .i64 3 (irem 17 4))) = ((16 : Nat) : Int) from rfl), sh_is _ (show 8 ≤ 32 by omega) (show (imul .i64 8 (isub .i64 3 (irem 18 4))) = ((8 : Nat) : Int) from rfl), sh_is _ (show 0 ≤ 32 by omega) (show (imul .i64 8 (isub .i64 3 (irem 19 4))) = ((0 : Nat) : Int) from rfl), sh_is _ (show 24 ≤ 32 by omega) (show (imul .i64 8 (isub .i64 3 (irem 20 4))) = ((24 : Nat) : Int) from rfl), sh_is _ (show 16 ≤ 32 by omega) (show (imul .i64 8 (isub .i64 3 (irem 21 4))) = ((16 : Nat) : Int) from rfl), sh_is _ (show 8 ≤ 32 by omega) (show (imul .i64 8 (isub .i64 3 (irem 22 4))) = ((8 : Nat) : Int) from rfl), sh_is _ (show 0 ≤ 32 by omega) (show (imul .i64 8 (isub .i64 3 (irem 23 4))) = ((0 : Nat) : Int) from rfl), sh_is _ (show 24 ≤ 32 by omega) (show (imul .i64 8 (isub .i64 3 (irem 24 4))) = ((24 : Nat) : Int) from rfl), sh_is _ (show 16 ≤ 32 by omega) (show (imul .i64 8 (isub .i64 3 (irem 25 4))) = ((16 : Nat) : Int) from rfl), sh_is _ (show 8 ≤ 32 by omega) (show (imul .i64 8 (isub .i64 3 (irem 26 4))) = ((8 : Nat) : Int) from rfl), sh_is _ (show 0 ≤ 32 by omega) (show (imul .i64 8 (isub .i64 3 (irem 27 4))) = ((0 : Nat) : Int) from rfl), sh_is _ (show 24 ≤ 32 by omega) (show (imul .i64 8 (isub .i64 3 (irem 28 4))) = ((24 : Nat) : Int) from rfl), sh_is _ (show 16 ≤ 32 by omega) (show (imul .i64 8 (isub .i64 3 (irem 29 4))) = ((16 : Nat) : Int) from rfl), sh_is _ (show 8 ≤ 32 by omega) (show (imul .i64 8 (isub .i64 3 (irem 30 4))) = ((8 : Nat) : Int) from rfl), sh_is _ (show 0 ≤ 32 by omega) (show (imul .i64 8 (isub .i64 3 (irem 31 4))) = ((0 : Nat) : Int) from rfl), Nat.pow_zero, Nat.div_one]
  rfl
end
end Go.Proofs.YtciafmcbccgggaaE
