/- Whole numbers of a kind as natural ones; lists of them. -/
import Derived.Test.YtchoafdpckknmaaDoorEvMa
namespace Go.Proofs.YtchoafdpckknmaaDoorE
open Go
set_option linter.unusedSimpArgs false
set_option linter.unusedVariables false
def nI (l : List Nat) : List Int := l.map (fun n : Nat => (n : Int))
theorem nI_len (l : List Nat) : (nI l).length = l.length := by simp [nI]
theorem nI_get (l : List Nat) (j : Nat) : (nI l)[j]? = (l[j]?).map (fun n : Nat => (n : Int)) := by simp [nI]
theorem nI_take (l : List Nat) (k : Nat) : (nI l).take k = nI (l.take k) := by simp [nI, List.map_take]
theorem nI_drop (l : List Nat) (k : Nat) : (nI l).drop k = nI (l.drop k) := by simp [nI, List.map_drop]
theorem nI_app (l r : List Nat) : nI l ++ nI r = nI (l ++ r) := by simp [nI]
theorem nI_set (l : List Nat) (j y : Nat) : (nI l).set j (y : Int) = nI (l.set j y) := by unfold nI; rw [List.map_set]
theorem nI_rep (n x : Nat) : List.replicate n (x : Int) = nI (List.replicate n x) := by unfold nI; rw [List.map_replicate]
theorem nI_inj {l r : List Nat} (h : nI l = nI r) : l = r := by
 unfold nI at h
 exact (List.map_inj_right (fun a b h => by omega)).1 h
theorem nI_of {l : List Int} (h : ∀ x ∈ l, 0 ≤ x) : ∃ r : List Nat, l = nI r := by
 refine ⟨l.map Int.toNat, ?_⟩
 unfold nI
 rw [List.map_map]
 symm
 rw [List.map_congr_left (g := id) (fun x hx => by have := h x hx; simp [Int.toNat_of_nonneg this]), List.map_id]
/-- an element; nought beyond them -/
abbrev gt (l : List Nat) (i : Nat) : Nat := l.getD i 0
theorem getn {l : List Nat} {i : Nat} (h : i < l.length) : (nI l)[i]? = some ((gt l i : Nat) : Int) := by
 rw [nI_get, List.getElem?_eq_getElem h, gt, List.getD_eq_getElem?_getD, List.getElem?_eq_getElem h]; rfl
theorem gt_mem {l : List Nat} {i : Nat} (h : i < l.length) : gt l i ∈ l := by
 rw [gt, List.getD_eq_getElem?_getD, List.getElem?_eq_getElem h]; exact List.getElem_mem h
theorem gt_set {l : List Nat} {j : Nat} (h : j < l.length) (y i : Nat) : gt (l.set j y) i = if i = j then y else gt l i := by
 simp only [gt, List.getD_eq_getElem?_getD, List.getElem?_set]
 by_cases e : j = i
 ·subst e; simp [h]
 ·rw [if_neg e, if_neg (fun g => e g.symm)]
/-- all below a number -/
def bel (m : Nat) (l : List Nat) : Prop := ∀ x ∈ l, x < m
theorem bel_gt {m : Nat} {l : List Nat} (h : bel m l) {i : Nat} (hi : i < l.length) : gt l i < m := h _ (gt_mem hi)
theorem bel_gt0 {m : Nat} {l : List Nat} (h : bel m l) (hm : 0 < m) (i : Nat) : gt l i < m := by
 by_cases hi : i < l.length
 ·exact bel_gt h hi
 ·rw [gt, List.getD_eq_getElem?_getD, List.getElem?_eq_none (by omega)]; exact hm
theorem bel_set {m : Nat} {l : List Nat} (h : bel m l) {j y : Nat} (hy : y < m) : bel m (l.set j y) := fun x hx => by
 rcases List.mem_or_eq_of_mem_set hx with h1 | h1
 ·exact h x h1
 ·rw [h1]; exact hy
theorem bel_take {m k : Nat} {l : List Nat} (h : bel m l) : bel m (l.take k) := fun x hx => h x (List.mem_of_mem_take hx)
theorem bel_drop {m k : Nat} {l : List Nat} (h : bel m l) : bel m (l.drop k) := fun x hx => h x (List.mem_of_mem_drop hx)
theorem bel_app {m : Nat} {l r : List Nat} (h : bel m l) (g : bel m r) : bel m (l ++ r) := fun x hx => (List.mem_append.1 hx).elim (h x) (g x)
/-! ### kinds -/
theorem irem_n (a b : Nat) : irem (a : Int) (b : Int) = ((a % b : Nat) : Int) := by
 unfold irem; rw [Int.tmod_eq_emod_of_nonneg (by omega)]; norm_cast
theorem up1 {i : Nat} (h : i < 2 ^ 62) : iadd .i64 (i : Int) 1 = ((i + 1 : Nat) : Int) := by rw [iadd_i (by omega) (by omega)]; omega
theorem addn {a b : Nat} (h : a + b < 2 ^ 62) : iadd .i64 (a : Int) (b : Int) = ((a + b : Nat) : Int) := by rw [iadd_i (by omega) (by omega)]; omega
theorem muln {a b : Nat} (h : a * b < 2 ^ 62) : imul .i64 (a : Int) (b : Int) = ((a * b : Nat) : Int) := by
 have e : (a : Int) * (b : Int) = ((a * b : Nat) : Int) := by norm_cast
 rw [imul_i (by omega) (by omega), e]
theorem subn {a b : Nat} (h : b ≤ a) (h2 : a < 2 ^ 62) : isub .i64 (a : Int) (b : Int) = ((a - b : Nat) : Int) := by rw [isub_i (by omega) (by omega)]; omega
theorem quon {a b : Nat} (h : a < 2 ^ 62) : iquo .i64 (a : Int) (b : Int) = ((a / b : Nat) : Int) := by
 unfold iquo
 rw [Int.tdiv_eq_ediv_of_nonneg (by omega), show (a : Int) / (b : Int) = ((a / b : Nat) : Int) by norm_cast]
 have := Nat.div_le_self a b
 generalize a / b = c at *
 exact wrap_i64 (by omega) (by omega)
theorem addu {a b : Nat} (h : a + b < 2 ^ 64) : iadd .u64 (a : Int) (b : Int) = ((a + b : Nat) : Int) := by
 rw [iadd_u .u64 rfl, show (2 ^ IntKind.u64.bits : Nat) = 2 ^ 64 from rfl, Nat.mod_eq_of_lt h]
theorem quou {a b : Nat} (h : a < 2 ^ 64) : iquo .u64 (a : Int) (b : Int) = ((a / b : Nat) : Int) := by
 unfold iquo
 rw [Int.tdiv_eq_ediv_of_nonneg (by omega), show (a : Int) / (b : Int) = ((a / b : Nat) : Int) by norm_cast]
 exact wrap_u .u64 rfl (by exact_mod_cast Nat.zero_le _) (by
  have := Nat.div_le_self a b
  have h2 : a / b < 2 ^ 64 := by omega
  exact_mod_cast h2)
theorem w64 {a : Nat} (h : a < 2 ^ 64) : IntKind.u64.wrap (a : Int) = (a : Int) := wrap_u .u64 rfl (by omega) (by exact_mod_cast h)
theorem w64m (a : Nat) : IntKind.u64.wrap (a : Int) = ((a % 18446744073709551616 : Nat) : Int) := by rw [wrap_u64]; norm_cast
theorem w32 (a : Nat) : IntKind.u32.wrap (a : Int) = ((a % 4294967296 : Nat) : Int) := by rw [wrap_u32]; norm_cast
theorem w8 (a : Nat) : IntKind.u8.wrap (a : Int) = ((a % 256 : Nat) : Int) := by rw [wrap_u8]; norm_cast
theorem add32 (a b : Nat) : iadd .u32 (a : Int) (b : Int) = (((a + b) % 4294967296 : Nat) : Int) := iadd_u .u32 rfl a b
theorem mul32 (a b : Nat) : imul .u32 (a : Int) (b : Int) = ((a * b % 4294967296 : Nat) : Int) := by
 unfold imul
 rw [wrap_u32]; norm_cast
theorem add64 (a b : Nat) : iadd .u64 (a : Int) (b : Int) = (((a + b) % 18446744073709551616 : Nat) : Int) := iadd_u .u64 rfl a b
theorem mul64 (a b : Nat) : imul .u64 (a : Int) (b : Int) = ((a * b % 18446744073709551616 : Nat) : Int) := by
 unfold imul
 rw [wrap_u64]; norm_cast
theorem and32 {a b : Nat} (ha : a < 4294967296) (hb : b < 4294967296) : iand .u32 (a : Int) (b : Int) = ((a &&& b : Nat) : Int) := iand_u .u32 rfl a b ha hb
theorem or32 {a b : Nat} (ha : a < 4294967296) (hb : b < 4294967296) : ior .u32 (a : Int) (b : Int) = ((a ||| b : Nat) : Int) := ior_u .u32 rfl a b ha hb
theorem xor32 {a b : Nat} (ha : a < 4294967296) (hb : b < 4294967296) : ixor .u32 (a : Int) (b : Int) = ((a ^^^ b : Nat) : Int) := ixor_u .u32 rfl a b ha hb
theorem shl32 {a n : Nat} (hn : n ≤ 32) : ishl .u32 (a : Int) (n : Int) = ((a * 2 ^ n % 4294967296 : Nat) : Int) := ishl_u .u32 rfl a n hn
theorem shr32n {a n : Nat} (hn : n ≤ 32) : ishr .u32 (a : Int) (n : Int) = ((a / 2 ^ n : Nat) : Int) := ishr_u .u32 a n hn
theorem shr64n {a n : Nat} (hn : n ≤ 64) : ishr .u64 (a : Int) (n : Int) = ((a / 2 ^ n : Nat) : Int) := ishr_u .u64 a n hn
theorem shl64 {a n : Nat} (hn : n ≤ 64) : ishl .u64 (a : Int) (n : Int) = ((a * 2 ^ n % 18446744073709551616 : Nat) : Int) := ishl_u .u64 rfl a n hn
theorem or64 {a b : Nat} (ha : a < 18446744073709551616) (hb : b < 18446744073709551616) : ior .u64 (a : Int) (b : Int) = ((a ||| b : Nat) : Int) := ior_u .u64 rfl a b ha hb
theorem not32 {a : Nat} (ha : a < 4294967296) : isub .u32 4294967295 (a : Int) = ((4294967295 - a : Nat) : Int) := by
 unfold isub
 rw [wrap_u .u32 rfl (by omega) (by
  have : (4294967295 : Int) - a < 4294967296 := by omega
  exact this)]
 omega
theorem lt_and {a b : Nat} (ha : a < 4294967296) : a &&& b < 4294967296 := Nat.lt_of_le_of_lt Nat.and_le_left ha
theorem lt_or {a b : Nat} (ha : a < 4294967296) (hb : b < 4294967296) : a ||| b < 4294967296 := Nat.or_lt_two_pow (n := 32) ha hb
theorem lt_xor {a b : Nat} (ha : a < 4294967296) (hb : b < 4294967296) : a ^^^ b < 4294967296 := Nat.xor_lt_two_pow (n := 32) ha hb
/-! ### bits -/
/-- one of two by a third -/
def ch (b c d : Nat) : Nat := d ^^^ (b &&& (c ^^^ d))
def maj (b c d : Nat) : Nat := (b &&& c) ||| (d &&& (b ||| c))
theorem test_not {a i : Nat} (ha : a < 4294967296) : (4294967295 - a).testBit i = (decide (i < 32) && !a.testBit i) := by
 have := Nat.testBit_two_pow_sub_succ (n := 32) (x := a) ha i
 rw [← this]
 congr 1
 omega
theorem ch_or {b c d : Nat} (hb : b < 4294967296) (hc : c < 4294967296) (hd : d < 4294967296) : (b &&& c) ||| ((4294967295 - b) &&& d) = ch b c d := by
 apply Nat.eq_of_testBit_eq
 intro i
 have hi : d.testBit i = true → i < 32 := fun h => by
  rcases Nat.lt_or_ge i 32 with g | g
  ·exact g
  ·rw [Nat.testBit_lt_two_pow (Nat.lt_of_lt_of_le hd (Nat.pow_le_pow_right (n := 2) (by omega) g))] at h; cases h
 unfold ch
 simp only [Nat.testBit_or, Nat.testBit_and, Nat.testBit_xor, test_not hb]
 cases hd' : d.testBit i
 ·cases b.testBit i <;> cases c.testBit i <;> simp
 ·have := hi hd'
  simp only [this, decide_true]
  cases b.testBit i <;> cases c.testBit i <;> rfl
theorem maj_or (b c d : Nat) : ((b &&& c) ||| (b &&& d)) ||| (c &&& d) = maj b c d := by
 apply Nat.eq_of_testBit_eq
 intro i
 unfold maj
 simp only [Nat.testBit_or, Nat.testBit_and]
 cases b.testBit i <;> cases c.testBit i <;> cases d.testBit i <;> rfl
theorem ch_lt {b c d : Nat} (hb : b < 4294967296) (hc : c < 4294967296) (hd : d < 4294967296) : ch b c d < 4294967296 := lt_xor hd (lt_and hb)
theorem maj_lt {b c d : Nat} (hb : b < 4294967296) (hc : c < 4294967296) (hd : d < 4294967296) : maj b c d < 4294967296 := lt_or (lt_and hb) (lt_and hd)
/-- a word turned left -/
def rotl (x n : Nat) : Nat := (x * 2 ^ n % 4294967296) ||| (x / 2 ^ (32 - n))
theorem div_lt32 {x n : Nat} (h : x < 4294967296) : x / 2 ^ n < 4294967296 := Nat.lt_of_le_of_lt (Nat.div_le_self _ _) h
theorem rotl_lt {x n : Nat} (h : x < 4294967296) : rotl x n < 4294967296 := lt_or (Nat.mod_lt _ (by omega)) (div_lt32 h)
theorem mod32 (x : Nat) : x % 4294967296 < 4294967296 := Nat.mod_lt _ (by omega)
theorem or8 {x b : Nat} (k : Nat) (hb : b < 2 ^ k) : (x * 2 ^ k) ||| b = x * 2 ^ k + b := by
 rw [Nat.mul_comm, ← Nat.two_pow_add_eq_or_of_lt hb]
/-- four elements in a row -/
theorem slice4 {B : List Nat} {j : Nat} (h : j + 4 ≤ B.length) : ((nI B).drop j).take 4 = [((gt B j : Nat) : Int), ((gt B (j + 1) : Nat) : Int), ((gt B (j + 2) : Nat) : Int), ((gt B (j + 3) : Nat) : Int)] := by
 have e : ∀ i, i < B.length → B[i]? = some (gt B i) := fun i hi => by rw [gt, List.getD_eq_getElem?_getD, List.getElem?_eq_getElem hi]; rfl
 have : ((B.drop j).take 4) = [gt B j, gt B (j + 1), gt B (j + 2), gt B (j + 3)] := by
  apply List.ext_getElem?
  intro i
  rw [List.getElem?_take]
  split
  ·rename_i hi
   rw [List.getElem?_drop, e _ (by omega)]
   match i, hi with
   | 0, _ => rfl
   | 1, _ => rfl
   | 2, _ => rfl
   | 3, _ => rfl
  ·rw [List.getElem?_eq_none (by simp; omega)]
 rw [nI_drop, nI_take, this]
 rfl
end Go.Proofs.YtchoafdpckknmaaDoorE
