/- Numbers laid and read, of the functions that chapter 8 has. -/
import Derived.Test.YtpiadkdalilmnaaEvX1
namespace Go.Proofs.YtpiadkdalilmnaaE
open Go
set_option linter.unusedSimpArgs false
set_option linter.unusedVariables false
/- Whole numbers of a kind as natural ones; lists of them. -/
theorem nI_set (l : List Nat) (j y : Nat) : (nI l).set j (y : Int) = nI (l.set j y) := by unfold nI; rw [List.map_set]
theorem nI_rep (n x : Nat) : List.replicate n (x : Int) = nI (List.replicate n x) := by unfold nI; rw [List.map_replicate]
theorem nI_inj {l r : List Nat} (h : nI l = nI r) : l = r := by
  unfold nI at h
  exact (List.map_inj_right (fun a b h => by omega)).1 h
theorem nI_of {l : List Int} (h : ∀ x ∈ l, 0 ≤ x) : ∃ r : List Nat, l = nI r := by
  refine ⟨l.map Int.toNat, ?_⟩
  unfold nI
  rw [List.map_map]
  symm
  rw [List.map_congr_left (g := id) (fun x hx => by have := h x hx; simp [Int.toNat_of_nonneg this]), List.map_id]
/-- an element; nought beyond them -/
abbrev gt (l : List Nat) (i : Nat) : Nat := l.getD i 0
theorem getn {l : List Nat} {i : Nat} (h : i < l.length) : (nI l)[i]? = some ((gt l i : Nat) : Int) := by
  rw [nI_get, List.getElem?_eq_getElem h, gt, List.getD_eq_getElem?_getD, List.getElem?_eq_getElem h]; rfl
theorem gt_mem {l : List Nat} {i : Nat} (h : i < l.length) : gt l i ∈ l := by
  rw [gt, List.getD_eq_getElem?_getD, List.getElem?_eq_getElem h]; exact List.getElem_mem h
theorem gt_set {l : List Nat} {j : Nat} (h : j < l.length) (y i : Nat) : gt (l.set j y) i = if i = j then y else gt l i := by
  simp only [gt, List.getD_eq_getElem?_getD, List.getElem?_set]
  by_cases e : j = i
  · subst e; simp [h]
  · rw [if_neg e, if_neg (fun g => e g.symm)]
/-- all below a number -/
def bel (m : Nat) (l : List Nat) : Prop := ∀ x ∈ l, x < m
theorem bel_gt {m : Nat} {l : List Nat} (h : bel m l) {i : Nat} (hi : i < l.length) : gt l i < m := h _ (gt_mem hi)
theorem bel_gt0 {m : Nat} {l : List Nat} (h : bel m l) (hm : 0 < m) (i : Nat) : gt l i < m := by
  by_cases hi : i < l.length
  · exact bel_gt h hi
  · rw [gt, List.getD_eq_getElem?_getD, List.getElem?_eq_none (by omega)]; exact hm
theorem bel_set {m : Nat} {l : List Nat} (h : bel m l) {j y : Nat} (hy : y < m) : bel m (l.set j y) := fun x hx => by
  rcases List.mem_or_eq_of_mem_set hx with h1 | h1
  · exact h x h1
  · rw [h1]; exact hy
theorem bel_take {m k : Nat} {l : List Nat} (h : bel m l) : bel m (l.take k) := fun x hx => h x (List.mem_of_mem_take hx)
theorem bel_drop {m k : Nat} {l : List Nat} (h : bel m l) : bel m (l.drop k) := fun x hx => h x (List.mem_of_mem_drop hx)
theorem bel_app {m : Nat} {l r : List Nat} (h : bel m l) (g : bel m r) : bel m (l ++ r) := fun x hx => (List.mem_append.1 hx).elim (h x) (g x)
/-! ### kinds -/
theorem irem_n (a b : Nat) : irem (a : Int) (b : Int) = ((a % b : Nat) : Int) := by
  unfold irem; rw [Int.tmod_eq_emod_of_nonneg (by omega)]; norm_cast
theorem up1 {i : Nat} (h : i < 2 ^ 62) : iadd .i64 (i : Int) 1 = ((i + 1 : Nat) : Int) := by rw [iadd_i (by omega) (by omega)]; omega
theorem addn {a b : Nat} (h : a + b < 2 ^ 62) : iadd .i64 (a : Int) (b : Int) = ((a + b : Nat) : Int) := by rw [iadd_i (by omega) (by omega)]; omega
theorem muln {a b : Nat} (h : a * b < 2 ^ 62) : imul .i64 (a : Int) (b : Int) = ((a * b : Nat) : Int) := by
  have e : (a : Int) * (b : Int) = ((a * b : Nat) : Int) := by norm_cast
  rw [imul_i (by omega) (by omega), e]
theorem subn {a b : Nat} (h : b ≤ a) (h2 : a < 2 ^ 62) : isub .i64 (a : Int) (b : Int) = ((a - b : Nat) : Int) := by rw [isub_i (by omega) (by omega)]; omega
theorem quon {a b : Nat} (h : a < 2 ^ 62) : iquo .i64 (a : Int) (b : Int) = ((a / b : Nat) : Int) := by
  unfold iquo
  rw [Int.tdiv_eq_ediv_of_nonneg (by omega), show (a : Int) / (b : Int) = ((a / b : Nat) : Int) by norm_cast]
  have := Nat.div_le_self a b
  generalize a / b = c at *
  exact wrap_i64 (by omega) (by omega)
theorem addu {a b : Nat} (h : a + b < 2 ^ 64) : iadd .u64 (a : Int) (b : Int) = ((a + b : Nat) : Int) := by
  rw [iadd_u .u64 rfl, show (2 ^ IntKind.u64.bits : Nat) = 2 ^ 64 from rfl, Nat.mod_eq_of_lt h]
theorem quou {a b : Nat} (h : a < 2 ^ 64) : iquo .u64 (a : Int) (b : Int) = ((a / b : Nat) : Int) := by
  unfold iquo
  rw [Int.tdiv_eq_ediv_of_nonneg (by omega), show (a : Int) / (b : Int) = ((a / b : Nat) : Int) by norm_cast]
  exact wrap_u .u64 rfl (by exact_mod_cast Nat.zero_le _) (by
    have := Nat.div_le_self a b
    have h2 : a / b < 2 ^ 64 := by omega
    exact_mod_cast h2)
theorem w64 {a : Nat} (h : a < 2 ^ 64) : IntKind.u64.wrap (a : Int) = (a : Int) := wrap_u .u64 rfl (by omega) (by exact_mod_cast h)
theorem w64m (a : Nat) : IntKind.u64.wrap (a : Int) = ((a % 18446744073709551616 : Nat) : Int) := by rw [wrap_u64]; norm_cast
theorem w32 (a : Nat) : IntKind.u32.wrap (a : Int) = ((a % 4294967296 : Nat) : Int) := by rw [wrap_u32]; norm_cast
theorem w8 (a : Nat) : IntKind.u8.wrap (a : Int) = ((a % 256 : Nat) : Int) := by rw [wrap_u8]; norm_cast
theorem add32 (a b : Nat) : iadd .u32 (a : Int) (b : Int) = (((a + b) % 4294967296 : Nat) : Int) := iadd_u .u32 rfl a b
theorem mul32 (a b : Nat) : imul .u32 (a : Int) (b : Int) = ((a * b % 4294967296 : Nat) : Int) := by
  unfold imul
  rw [wrap_u32]; norm_cast
theorem add64 (a b : Nat) : iadd .u64 (a : Int) (b : Int) = (((a + b) % 18446744073709551616 : Nat) : Int) := iadd_u .u64 rfl a b
theorem mul64 (a b : Nat) : imul .u64 (a : Int) (b : Int) = ((a * b % 18446744073709551616 : Nat) : Int) := by
  unfold imul
  rw [wrap_u64]; norm_cast
theorem and32 {a b : Nat} (ha : a < 4294967296) (hb : b < 4294967296) : iand .u32 (a : Int) (b : Int) = ((a &&& b : Nat) : Int) := iand_u .u32 rfl a b ha hb
theorem or32 {a b : Nat} (ha : a < 4294967296) (hb : b < 4294967296) : ior .u32 (a : Int) (b : Int) = ((a ||| b : Nat) : Int) := ior_u .u32 rfl a b ha hb
theorem xor32 {a b : Nat} (ha : a < 4294967296) (hb : b < 4294967296) : ixor .u32 (a : Int) (b : Int) = ((a ^^^ b : Nat) : Int) := ixor_u .u32 rfl a b ha hb
theorem shl32 {a n : Nat} (hn : n ≤ 32) : ishl .u32 (a : Int) (n : Int) = ((a * 2 ^ n % 4294967296 : Nat) : Int) := ishl_u .u32 rfl a n hn
theorem shr32n {a n : Nat} (hn : n ≤ 32) : ishr .u32 (a : Int) (n : Int) = ((a / 2 ^ n : Nat) : Int) := ishr_u .u32 a n hn
theorem shr64n {a n : Nat} (hn : n ≤ 64) : ishr .u64 (a : Int) (n : Int) = ((a / 2 ^ n : Nat) : Int) := ishr_u .u64 a n hn
theorem shl64 {a n : Nat} (hn : n ≤ 64) : ishl .u64 (a : Int) (n : Int) = ((a * 2 ^ n % 18446744073709551616 : Nat) : Int) := ishl_u .u64 rfl a n hn
theorem or64 {a b : Nat} (ha : a < 18446744073709551616) (hb : b < 18446744073709551616) : ior .u64 (a : Int) (b : Int) = ((a ||| b : Nat) : Int) := ior_u .u64 rfl a b ha hb
theorem not32 {a : Nat} (ha : a < 4294967296) : isub .u32 4294967295 (a : Int) = ((4294967295 - a : Nat) : Int) := by
  unfold isub
  rw [wrap_u .u32 rfl (by omega) (by
    have : (4294967295 : Int) - a < 4294967296 := by omega
    exact this)]
  omega
theorem lt_and {a b : Nat} (ha : a < 4294967296) : a &&& b < 4294967296 := Nat.lt_of_le_of_lt Nat.and_le_left ha
theorem lt_or {a b : Nat} (ha : a < 4294967296) (hb : b < 4294967296) : a ||| b < 4294967296 := Nat.or_lt_two_pow (n := 32) ha hb
theorem lt_xor {a b : Nat} (ha : a < 4294967296) (hb : b < 4294967296) : a ^^^ b < 4294967296 := Nat.xor_lt_two_pow (n := 32) ha hb
/-! ### bits -/
/-- one of two by a third -/
def ch (b c d : Nat) : Nat := d ^^^ (b &&& (c ^^^ d))
def maj (b c d : Nat) : Nat := (b &&& c) ||| (d &&& (b ||| c))
theorem test_not {a i : Nat} (ha : a < 4294967296) : (4294967295 - a).testBit i = (decide (i < 32) && !a.testBit i) := by
  have := Nat.testBit_two_pow_sub_succ (n := 32) (x := a) ha i
  rw [← this]
  congr 1
  omega
theorem ch_or {b c d : Nat} (hb : b < 4294967296) (hc : c < 4294967296) (hd : d < 4294967296) : (b &&& c) ||| ((4294967295 - b) &&& d) = ch b c d := by
  apply Nat.eq_of_testBit_eq
  intro i
  have hi : d.testBit i = true → i < 32 := fun h => by
    rcases Nat.lt_or_ge i 32 with g | g
    · exact g
    · rw [Nat.testBit_lt_two_pow (Nat.lt_of_lt_of_le hd (Nat.pow_le_pow_right (n := 2) (by omega) g))] at h; cases h
  unfold ch
  simp only [Nat.testBit_or, Nat.testBit_and, Nat.testBit_xor, test_not hb]
  cases hd' : d.testBit i
  · cases b.testBit i <;> cases c.testBit i <;> simp
  · have := hi hd'
    simp only [this, decide_true]
    cases b.testBit i <;> cases c.testBit i <;> rfl
theorem maj_or (b c d : Nat) : ((b &&& c) ||| (b &&& d)) ||| (c &&& d) = maj b c d := by
  apply Nat.eq_of_testBit_eq
  intro i
  unfold maj
  simp only [Nat.testBit_or, Nat.testBit_and]
  cases b.testBit i <;> cases c.testBit i <;> cases d.testBit i <;> rfl
theorem ch_lt {b c d : Nat} (hb : b < 4294967296) (hc : c < 4294967296) (hd : d < 4294967296) : ch b c d < 4294967296 := lt_xor hd (lt_and hb)
theorem maj_lt {b c d : Nat} (hb : b < 4294967296) (hc : c < 4294967296) (hd : d < 4294967296) : maj b c d < 4294967296 := lt_or (lt_and hb) (lt_and hd)
/-- a word turned left -/
def rotl (x n : Nat) : Nat := (x * 2 ^ n % 4294967296) ||| (x / 2 ^ (32 - n))
theorem div_lt32 {x n : Nat} (h : x < 4294967296) : x / 2 ^ n < 4294967296 := Nat.lt_of_le_of_lt (Nat.div_le_self _ _) h
theorem rotl_lt {x n : Nat} (h : x < 4294967296) : rotl x n < 4294967296 := lt_or (Nat.mod_lt _ (by omega)) (div_lt32 h)
theorem mod32 (x : Nat) : x % 4294967296 < 4294967296 := Nat.mod_lt _ (by omega)
theorem or8 {x b : Nat} (k : Nat) (hb : b < 2 ^ k) : (x * 2 ^ k) ||| b = x * 2 ^ k + b := by
  rw [Nat.mul_comm, ← Nat.two_pow_add_eq_or_of_lt hb]
/-- four elements in a row -/
theorem slice4 {B : List Nat} {j : Nat} (h : j + 4 ≤ B.length) : ((nI B).drop j).take 4 = [((gt B j : Nat) : Int), ((gt B (j + 1) : Nat) : Int), ((gt B (j + 2) : Nat) : Int), ((gt B (j + 3) : Nat) : Int)] := by
  have e : ∀ i, i < B.length → B[i]? = some (gt B i) := fun i hi => by rw [gt, List.getD_eq_getElem?_getD, List.getElem?_eq_getElem hi]; rfl
  have : ((B.drop j).take 4) = [gt B j, gt B (j + 1), gt B (j + 2), gt B (j + 3)] := by
    apply List.ext_getElem?
    intro i
    rw [List.getElem?_take]
    split
    · rename_i hi
      rw [List.getElem?_drop, e _ (by omega)]
      match i, hi with
      | 0, _ => rfl
      | 1, _ => rfl
      | 2, _ => rfl
      | 3, _ => rfl
    · rw [List.getElem?_eq_none (by simp; omega)]
  rw [nI_drop, nI_take, this]
  rfl
/- Contracts of what digests share: texts joined, numbers laid and read, words turned, tails. -/
/-! ### joined -/
def fl (ll : List (List Int)) (i : Nat) : Nat := (ll.take i).flatten.length
theorem fl_succ {ll : List (List Int)} {i : Nat} (h : i < ll.length) : fl ll (i + 1) = fl ll i + ll[i].length := by
  have e : ll.take (i + 1) = ll.take i ++ [ll[i]] := by rw [List.take_add_one, List.getElem?_eq_getElem h]; rfl
  unfold fl
  rw [e, List.flatten_append, List.length_append, List.flatten_cons, List.flatten_nil, List.append_nil]
theorem fl_le (ll : List (List Int)) (i : Nat) : fl ll i ≤ ll.flatten.length := by
  unfold fl
  have : ll.flatten = (ll.take i).flatten ++ (ll.drop i).flatten := by rw [← List.flatten_append, List.take_append_drop]
  rw [this, List.length_append]
  omega
def f1 (ll : List (List Int)) : Option (List Int) := if ll.length ≤ 1099511627776 ∧ ll.flatten.length ≤ 1099511627776 then some ll.flatten else none
theorem f1_is {ll : List (List Int)} (h1 : ll.length ≤ 1099511627776) (h2 : ll.flatten.length ≤ 1099511627776) : f1 ll = some ll.flatten := if_pos ⟨h1, h2⟩
/-! ### laid and read -/
def h48 (a b : Nat) (l : List Int) := p48v0 20 a b l
theorem R48 : REntOK FT XT 48 (rn48v0 h48) := ok48v0 fun _ _ _ _ h => ⟨20, h⟩
def h19 (n w : Int) (b : Bool) := p19 h48 20 n w b
theorem E19 : EntOK FT XT 19 (en19 h19) := ok19 h48 R48 fun _ _ _ _ h => ⟨20, h⟩
def le8 (n : Nat) : List Nat := [n % 256, n / 2 ^ 8 % 256, n / 2 ^ 16 % 256, n / 2 ^ 24 % 256, n / 2 ^ 32 % 256, n / 2 ^ 40 % 256, n / 2 ^ 48 % 256, n / 2 ^ 56 % 256]
def be4 (n : Nat) : List Nat := [n / 2 ^ 24 % 256, n / 2 ^ 16 % 256, n / 2 ^ 8 % 256, n % 256]
def lay (x : Int) (j : Nat) : Int := IntKind.wrap .u8 (ishr .u64 x (imul .i64 8 (j : Int)))
theorem lay_is (n : Nat) {j : Nat} (hj : j ≤ 8) : lay (n : Int) j = ((n / 2 ^ (8 * j) % 256 : Nat) : Int) := by
  unfold lay
  rw [show (8 : Int) = ((8 : Nat) : Int) from rfl, muln (by omega), shr64n (by omega), w8]
theorem h19_le8 (x : Int) : h19 x 8 true = some ([lay x 0, lay x 1, lay x 2, lay x 3, lay x 4, lay x 5, lay x 6, lay x 7], 0) := by kernel_rfl
theorem h19_be8 (x : Int) : h19 x 8 false = some ([lay x 7, lay x 6, lay x 5, lay x 4, lay x 3, lay x 2, lay x 1, lay x 0], 0) := by kernel_rfl
theorem h19_be4 (x : Int) : h19 x 4 false = some ([lay x 3, lay x 2, lay x 1, lay x 0], 0) := by kernel_rfl
theorem put_le8 (n : Nat) : h19 (n : Int) 8 true = some (nI (le8 n), 0) := by
  rw [h19_le8]
  simp only [lay_is n (show 0 ≤ 8 by omega), lay_is n (show 1 ≤ 8 by omega), lay_is n (show 2 ≤ 8 by omega), lay_is n (show 3 ≤ 8 by omega), lay_is n (show 4 ≤ 8 by omega), lay_is n (show 5 ≤ 8 by omega), lay_is n (show 6 ≤ 8 by omega), lay_is n (show 7 ≤ 8 by omega)]
  simp [le8, nI]
theorem put_be8 (n : Nat) : h19 (n : Int) 8 false = some (nI (le8 n).reverse, 0) := by
  rw [h19_be8]
  simp only [lay_is n (show 0 ≤ 8 by omega), lay_is n (show 1 ≤ 8 by omega), lay_is n (show 2 ≤ 8 by omega), lay_is n (show 3 ≤ 8 by omega), lay_is n (show 4 ≤ 8 by omega), lay_is n (show 5 ≤ 8 by omega), lay_is n (show 6 ≤ 8 by omega), lay_is n (show 7 ≤ 8 by omega)]
  simp [le8, nI]
theorem put_be4 (n : Nat) : h19 (n : Int) 4 false = some (nI (be4 n), 0) := by
  rw [h19_be4]
  simp only [lay_is n (show 0 ≤ 8 by omega), lay_is n (show 1 ≤ 8 by omega), lay_is n (show 2 ≤ 8 by omega), lay_is n (show 3 ≤ 8 by omega)]
  simp [be4, nI]
def h21 (l : List Int) (b : Bool) := p21 20 l b
theorem E21 : EntOK FT XT 21 (en21 h21) := ok21 fun _ _ _ h => ⟨20, h⟩
theorem get_be {a b c d : Nat} (ha : a < 256) (hb : b < 256) (hc : c < 256) (hd : d < 256) : h21 [(a : Int), (b : Int), (c : Int), (d : Int)] false = some (((a * 16777216 + b * 65536 + c * 256 + d : Nat) : Int), 0) := by
  have e : h21 [(a : Int), (b : Int), (c : Int), (d : Int)] false = some (ior .u64 (ishl .u64 (ior .u64 (ishl .u64 (ior .u64 (ishl .u64 (ior .u64 (ishl .u64 0 8) (IntKind.wrap .u64 (a : Int))) 8) (IntKind.wrap .u64 (b : Int))) 8) (IntKind.wrap .u64 (c : Int))) 8) (IntKind.wrap .u64 (d : Int)), 0) := by kernel_rfl
  rw [e, w64 (by omega), w64 (by omega), w64 (by omega), w64 (by omega), show (8 : Int) = ((8 : Nat) : Int) from rfl, show (0 : Int) = ((0 : Nat) : Int) from rfl]
  have step : ∀ x y : Nat, x < 72057594037927936 → y < 256 → ior .u64 (ishl .u64 (x : Int) ((8 : Nat) : Int)) (y : Int) = ((x * 256 + y : Nat) : Int) := fun x y hx hy => by
    rw [shl64 (by omega), Nat.mod_eq_of_lt (by omega), or64 (by omega) (by omega)]
    have := or8 (x := x) (b := y) 8 (by omega)
    rw [this]
  rw [step 0 a (by omega) ha, step _ b (by omega) hb, step _ c (by omega) hc, step _ d (by omega) hd]
  rw [show (((0 * 256 + a) * 256 + b) * 256 + c) * 256 + d = a * 16777216 + b * 65536 + c * 256 + d by omega]
theorem get_le {a b c d : Nat} (ha : a < 256) (hb : b < 256) (hc : c < 256) (hd : d < 256) : h21 [(a : Int), (b : Int), (c : Int), (d : Int)] true = some (((a + b * 256 + c * 65536 + d * 16777216 : Nat) : Int), 0) := by
  have e : h21 [(a : Int), (b : Int), (c : Int), (d : Int)] true = some (ior .u64 (ior .u64 (ior .u64 (ior .u64 0 (ishl .u64 (IntKind.wrap .u64 (a : Int)) (imul .i64 8 0))) (ishl .u64 (IntKind.wrap .u64 (b : Int)) (imul .i64 8 1))) (ishl .u64 (IntKind.wrap .u64 (c : Int)) (imul .i64 8 2))) (ishl .u64 (IntKind.wrap .u64 (d : Int)) (imul .i64 8 3)), 0) := by kernel_rfl
  have step : ∀ (x y k : Nat), k ≤ 24 → x < 2 ^ k → y < 256 → ior .u64 (x : Int) (ishl .u64 (y : Int) ((k : Nat) : Int)) = ((x + y * 2 ^ k : Nat) : Int) := fun x y k hk hx hy => by
    have hp : 2 ^ k ≤ 2 ^ 24 := Nat.pow_le_pow_right (by omega) hk
    have hyk : y * 2 ^ k ≤ 255 * 2 ^ 24 := Nat.mul_le_mul (by omega) hp
    rw [shl64 (by omega), Nat.mod_eq_of_lt (by omega), or64 (by omega) (by omega), Nat.or_comm, or8 k hx, Nat.add_comm]
  rw [e, w64 (by omega), w64 (by omega), w64 (by omega), w64 (by omega), show imul .i64 8 0 = ((0 : Nat) : Int) from rfl, show imul .i64 8 1 = ((8 : Nat) : Int) from rfl, show imul .i64 8 2 = ((16 : Nat) : Int) from rfl, show imul .i64 8 3 = ((24 : Nat) : Int) from rfl, show (0 : Int) = ((0 : Nat) : Int) from rfl]
  rw [step 0 a 0 (by omega) (by omega) ha, step _ b 8 (by omega) (by omega) hb, step _ c 16 (by omega) (by omega) hc, step _ d 24 (by omega) (by omega) hd]
  rw [show 0 + a * 2 ^ 0 + b * 2 ^ 8 + c * 2 ^ 16 + d * 2 ^ 24 = a + b * 256 + c * 65536 + d * 16777216 by omega]
/-! ### turned -/
theorem and31 {n : Nat} (h : n < 18446744073709551616) : iand .u64 (n : Int) 31 = ((n % 32 : Nat) : Int) := by
  rw [show (31 : Int) = ((31 : Nat) : Int) from rfl, iand_u .u64 rfl n 31 h (by decide), show (31 : Nat) = 2 ^ 5 - 1 from rfl, Nat.and_two_pow_sub_one_eq_mod]
theorem rotl_of {x n : Nat} (hx : x < 4294967296) (hn : n ≤ 32) : ior .u32 (ishl .u32 (x : Int) (n : Int)) (ishr .u32 (x : Int) ((32 - n : Nat) : Int)) = ((rotl x n : Nat) : Int) := by
  rw [shl32 hn, shr32n (by omega), or32 (mod32 _) (div_lt32 hx)]
  rfl
/-! ### the same -/
/-! ### tails -/
/-- how many noughts -/
def nz (n : Nat) : Nat := (119 - n % 64) % 64
def tail (e : List Nat) (n : Nat) : List Nat := 128 :: (List.replicate (nz n) 0 ++ e)
theorem tail_len {e : List Nat} (n : Nat) (h : e.length = 8) : (tail e n).length = nz n + 9 := by
  unfold tail
  rw [List.length_cons, List.length_append, List.length_replicate, h]
theorem le8_len (n : Nat) : (le8 n).length = 8 := rfl
theorem nz_lt (n : Nat) : nz n < 64 := Nat.mod_lt _ (by omega)
theorem nz_mod (n : Nat) : (n + (nz n + 9)) % 64 = 0 := by unfold nz; omega
theorem zc_is (n : Nat) : irem (isub .u64 64 (irem (iadd .u64 (iadd .u64 (n : Int) 1) 8) 64)) 64 = ((nz n : Nat) : Int) := by
  rw [show (1 : Int) = ((1 : Nat) : Int) from rfl, show (8 : Int) = ((8 : Nat) : Int) from rfl, show (64 : Int) = ((64 : Nat) : Int) from rfl, add64, add64, irem_n]
  have e : isub .u64 ((64 : Nat) : Int) (((((n + 1) % 18446744073709551616 + 8) % 18446744073709551616 % 64 : Nat)) : Int) = ((64 - (n + 9) % 64 : Nat) : Int) := by
    unfold isub
    rw [wrap_u .u64 rfl (by omega) (by
      have : ((64 : Nat) : Int) - (((((n + 1) % 18446744073709551616 + 8) % 18446744073709551616 % 64 : Nat)) : Int) < 18446744073709551616 := by omega
      exact this)]
    omega
  rw [e, irem_n]
  congr 1
  unfold nz
  omega
end Go.Proofs.YtpiadkdalilmnaaE
