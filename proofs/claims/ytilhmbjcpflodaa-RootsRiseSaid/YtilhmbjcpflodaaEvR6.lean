/- The program's roots are the reference's; the laws RootsAre and RootsRise answer true. -/
import Derived.Test.YtilhmbjcpflodaaEvR5
namespace Go.Proofs.YtilhmbjcpflodaaE
open Go
set_option linter.unusedSimpArgs false
set_option linter.unusedVariables false
theorem maskn {x : Nat} (h : x < 2 ^ 64) : iand .u64 (x : Int) 4294967295 = ((x % 4294967296 : Nat) : Int) := by
  rw [show (4294967295 : Int) = ((4294967295 : Nat) : Int) from rfl, iand_u .u64 rfl x 4294967295 h (by decide), show (4294967295 : Nat) = 2 ^ 32 - 1 from rfl, Nat.and_two_pow_sub_one_eq_mod]
theorem shrn {x k : Nat} (hk : k ≤ 64) : ishr .u64 (x : Int) (k : Int) = ((x / 2 ^ k : Nat) : Int) := ishr_u .u64 x k hk
theorem shr32 (x : Nat) : ishr .u64 (x : Int) 32 = ((x / 4294967296 : Nat) : Int) := shrn (k := 32) (by omega)
theorem mul_lt32 {x y : Nat} (hx : x < 4294967296) (hy : y < 4294967296) : x * y ≤ 4294967295 * 4294967295 := Nat.mul_le_mul (by omega) (by omega)
theorem p120_is {N a b : Nat} (ha : a < 2 ^ 64) (hb : b < 2 ^ 64) : p120 N (a : Int) (b : Int) = some (((a * b / 2 ^ 64 : Nat) : Int), ((a * b % 2 ^ 64 : Nat) : Int)) := by
  unfold p120
  rw [mulu_mod, maskn ha, maskn hb, shr32 a, shr32 b]
  generalize h1 : a / 4294967296 = x1
  generalize h0 : a % 4294967296 = x0
  generalize g1 : b / 4294967296 = y1
  generalize g0 : b % 4294967296 = y0
  have b1 := mul_lt32 (show x0 < 4294967296 by omega) (show y0 < 4294967296 by omega)
  have b2 := mul_lt32 (show x1 < 4294967296 by omega) (show y0 < 4294967296 by omega)
  have b3 := mul_lt32 (show x0 < 4294967296 by omega) (show y1 < 4294967296 by omega)
  have b4 := mul_lt32 (show x1 < 4294967296 by omega) (show y1 < 4294967296 by omega)
  have e : a * b = x1 * y1 * 18446744073709551616 + (x1 * y0 + x0 * y1) * 4294967296 + x0 * y0 := by
    have ea : a = x1 * 4294967296 + x0 := by omega
    have eb : b = y1 * 4294967296 + y0 := by omega
    have m1 : x1 * 4294967296 * (y1 * 4294967296) = x1 * y1 * (4294967296 * 4294967296) := Nat.mul_mul_mul_comm ..
    have m2 : x1 * 4294967296 * y0 = x1 * y0 * 4294967296 := Nat.mul_right_comm ..
    have m3 : x0 * (y1 * 4294967296) = x0 * y1 * 4294967296 := (Nat.mul_assoc ..).symm
    rw [ea, eb, Nat.add_mul, Nat.mul_add, Nat.mul_add, m1, m2, m3, Nat.add_mul]
    omega
  rw [mulu (a := x0) (b := y0) (by omega), mulu (a := x1) (b := y0) (by omega), mulu (a := x0) (b := y1) (by omega), mulu (a := x1) (b := y1) (by omega), shr32, addu (by omega), maskn (by omega), shr32, addu (by omega), addu (by omega), shr32, addu (by omega), e]
  generalize x0 * y0 = W at *
  generalize x1 * y0 = A at *
  generalize x0 * y1 = B at *
  generalize x1 * y1 = C at *
  congr 3
  omega
theorem p116_is {c120 : Int → Int → Option (Int × Int)} (F : ∀ a b : Nat, a < 2 ^ 64 → b < 2 ^ 64 → c120 (a : Int) (b : Int) = some (((a * b / 2 ^ 64 : Nat) : Int), ((a * b % 2 ^ 64 : Nat) : Int))) {N x n p : Nat} (hx : x ≤ 2 ^ 38) (hn : n ≤ 1000) (hp : p = 2 ∨ p = 3) : p116 c120 N (x : Int) (n : Int) (p : Int) = some (decide (x ^ p ≤ n * 2 ^ (p * 32))) := by
  unfold p116
  have hxx : x * x ≤ 2 ^ 38 * 2 ^ 38 := Nat.mul_le_mul hx hx
  rw [F x x (by omega) (by omega)]
  have hw : ∀ S n : Nat, S / 2 ^ 64 < n → S ≤ n * 18446744073709551616 := fun S n h => by omega
  rcases hp with rfl | rfl
  · simp only [show ((((2 : Nat) : Int)) == 2) = true from rfl, cond_true]
    rw [Nat.pow_two, show (2 : Nat) ^ (2 * 32) = 18446744073709551616 by simp only [Nat.reduceMul, Nat.reducePow]]
    generalize x * x = S at *
    by_cases h1 : S / 2 ^ 64 < n
    · have h2 : S ≤ n * 18446744073709551616 := hw S n h1
      have h3 : ((S / 2 ^ 64 : Nat) : Int) < (n : Int) := by exact_mod_cast h1
      simp only [h2, h3, decide_true, cond_true]
    · have h3 : ¬ ((S / 2 ^ 64 : Nat) : Int) < (n : Int) := by exact_mod_cast h1
      simp only [h3, decide_false, cond_false]
      by_cases h4 : S / 2 ^ 64 = n
      · rw [h4]
        simp only [beq_self_eq_true, cond_true]
        congr 1
        rw [Bool.eq_iff_iff, beq_iff_eq, decide_eq_true_iff]
        omega
      · simp only [show (((S / 2 ^ 64 : Nat) : Int) == (n : Int)) = false from beq_eq_false_iff_ne.2 (by exact_mod_cast h4), cond_false]
        congr 1
        symm
        rw [decide_eq_false_iff_not]
        omega
  · simp only [show ((((3 : Nat) : Int)) == 2) = false from rfl, cond_false]
    generalize hS : x * x = S at *
    rw [F (S % 2 ^ 64) x (by omega) (by omega)]
    simp only
    have hM : S / 2 ^ 64 * x ≤ 4096 * 2 ^ 38 := Nat.mul_le_mul (by omega) hx
    have hsplit : S * x = S / 2 ^ 64 * x * 2 ^ 64 + S % 2 ^ 64 * x := by
      rw [Nat.mul_right_comm, ← Nat.add_mul]; congr 1; omega
    have hL : S % 2 ^ 64 * x ≤ 18446744073709551615 * 2 ^ 38 := Nat.mul_le_mul (by omega) hx
    have e32 : ishl .u64 (n : Int) 32 = ((n * 4294967296 : Nat) : Int) := by
      rw [show (32 : Int) = ((32 : Nat) : Int) from rfl, ishl_u .u64 rfl n 32 (by decide), show (2 ^ 32 : Nat) = 4294967296 from rfl, show (2 ^ IntKind.u64.bits : Nat) = 2 ^ 64 from rfl, Nat.mod_eq_of_lt (by omega)]
    rw [mulu (by omega), addu (by omega), e32, show x ^ 3 = x * x * x by rw [Nat.pow_succ, Nat.pow_two], hS, hsplit, show (2 : Nat) ^ (3 * 32) = 79228162514264337593543950336 by simp only [Nat.reduceMul, Nat.reducePow]]
    generalize S / 2 ^ 64 * x = M at *
    generalize S % 2 ^ 64 * x = L at *
    by_cases h1 : M + L / 2 ^ 64 < n * 4294967296
    · have h2 : M * 2 ^ 64 + L ≤ n * 79228162514264337593543950336 := by omega
      have h3 : ((M + L / 2 ^ 64 : Nat) : Int) < ((n * 4294967296 : Nat) : Int) := by exact_mod_cast h1
      simp only [h2, h3, decide_true, cond_true]
    · have h3 : ¬ ((M + L / 2 ^ 64 : Nat) : Int) < ((n * 4294967296 : Nat) : Int) := by exact_mod_cast h1
      simp only [h3, decide_false, cond_false]
      by_cases h4 : M + L / 2 ^ 64 = n * 4294967296
      · rw [h4]
        simp only [beq_self_eq_true, cond_true]
        congr 1
        rw [Bool.eq_iff_iff, beq_iff_eq, decide_eq_true_iff]
        omega
      · simp only [show (((M + L / 2 ^ 64 : Nat) : Int) == ((n * 4294967296 : Nat) : Int)) = false from beq_eq_false_iff_ne.2 (by exact_mod_cast h4), cond_false]
        congr 1
        symm
        rw [decide_eq_false_iff_not]
        omega
theorem p115_is {c116 : Int → Int → Int → Option Bool} {N x n p T : Nat} {r : Bool} (hx : x < 2 ^ 38) (hn : n ≤ 1000) (F : c116 ((x + 1 : Nat) : Int) (n : Int) (p : Int) = some r) :
    p115v0 c116 N (x : Int) [(n : Int)] [(p : Int)] = some ((!r, ()), ([(n : Int)], ([(p : Int)], ()))) := by
  unfold p115v0
  have e1 : IntKind.u64.wrap (x : Int) = (x : Int) := wrap_u .u64 rfl (by omega) (by have : x < 2 ^ 64 := by omega
                                                                                     exact_mod_cast this)
  have e2 : IntKind.u64.wrap (n : Int) = (n : Int) := wrap_u .u64 rfl (by omega) (by have : n < 2 ^ 64 := by omega
                                                                                     exact_mod_cast this)
  have e3 : iadd .u64 (x : Int) 1 = ((x + 1 : Nat) : Int) := addu (b := 1) (by omega)
  simp only [List.getElem?_cons_zero, e1, e2, e3, F]
theorem L114_is {d115 : Int → List Int → List Int → Option ((Bool × Unit) × ((List Int) × ((List Int) × Unit)))} (N n p T : Nat) (hp : p ≠ 0)
    (F : ∀ x : Nat, x < 2 ^ 38 → d115 (x : Int) [(n : Int)] [(p : Int)] = some ((!decide ((x + 1) ^ p ≤ T), ()), ([(n : Int)], ([(p : Int)], ())))) :
    ∀ e lo hi fuel, hi - lo < 2 ^ e → e < fuel → lo ≤ hi → hi ≤ 2 ^ 38 → lo ^ p ≤ T → T < (hi + 1) ^ p → ∃ x : Nat, x ^ p ≤ T ∧ T < (x + 1) ^ p ∧ x ≤ 2 ^ 38 ∧
      L114v0_0 d115 N (fun (y6 : Int) (y7 : List Int) (y8 : List Int) => some ((y6, ()), (y7, (y8, ())))) fuel (lo : Int) (hi : Int) [(n : Int)] [(p : Int)] = some (((x : Int), ()), ([(n : Int)], ([(p : Int)], ()))) := by
  intro e
  induction e with
  | zero =>
    intro lo hi fuel hh hf hle h38 h1 h2
    obtain ⟨m, rfl⟩ : ∃ m, fuel = m + 1 := ⟨fuel - 1, by omega⟩
    obtain rfl : lo = hi := by omega
    refine ⟨lo, h1, h2, h38, ?_⟩
    simp only [L114v0_0, show ¬ ((lo : Int) < (lo : Int)) by omega, decide_false, cond_false]
  | succ e ih =>
    intro lo hi fuel hh hf hle h38 h1 h2
    obtain ⟨m, rfl⟩ : ∃ m, fuel = m + 1 := ⟨fuel - 1, by omega⟩
    have hpw : 2 ^ (e + 1) = 2 ^ e + 2 ^ e := by rw [Nat.pow_succ]; omega
    by_cases hlt : lo < hi
    · have a1 : iadd .i64 (lo : Int) (hi : Int) = ((lo + hi : Nat) : Int) := addn (by omega)
      have a2 : IntKind.u64.wrap ((lo + hi : Nat) : Int) = ((lo + hi : Nat) : Int) := wrap_u .u64 rfl (by omega) (by have : lo + hi < 2 ^ 64 := by omega
                                                                                                                     exact_mod_cast this)
      have a3 : ishr .u64 ((lo + hi : Nat) : Int) 1 = (((lo + hi) / 2 : Nat) : Int) := by
        rw [show (1 : Int) = ((1 : Nat) : Int) from rfl, shrn (by omega)]
      have a4 : IntKind.i64.wrap (((lo + hi) / 2 : Nat) : Int) = (((lo + hi) / 2 : Nat) : Int) := wrap_i64 (by omega) (by omega)
      have hmid : (lo + hi) / 2 < 2 ^ 38 := by omega
      have F1 := F ((lo + hi) / 2) hmid
      by_cases hc : ((lo + hi) / 2 + 1) ^ p ≤ T
      · obtain ⟨x, x1, x2, x3, x4⟩ := ih ((lo + hi) / 2 + 1) hi m (by omega) (by omega) (by omega) h38 hc h2
        refine ⟨x, x1, x2, x3, ?_⟩
        simp only [L114v0_0, show ((lo : Int) < (hi : Int)) by omega, decide_true, cond_true, a1, a2, a3, a4, F1, hc, Bool.not_true, Bool.not_false]
        rw [up1 (by omega)]
        exact x4
      · obtain ⟨x, x1, x2, x3, x4⟩ := ih lo ((lo + hi) / 2) m (by omega) (by omega) (by omega) (by omega) h1 (by omega)
        refine ⟨x, x1, x2, x3, ?_⟩
        simp only [L114v0_0, show ((lo : Int) < (hi : Int)) by omega, decide_true, cond_true, a1, a2, a3, a4, F1, hc, decide_false, Bool.not_true, Bool.not_false, cond_false]
        exact x4
    · obtain rfl : lo = hi := by omega
      refine ⟨lo, h1, h2, h38, ?_⟩
      simp only [L114v0_0, show ¬ ((lo : Int) < (lo : Int)) by omega, decide_false, cond_false]
theorem isR_shift {n p b s x : Nat} (hp : p ≠ 0) (h : isR n p (b + s) x) : isR n p b (x / 2 ^ s) := by
  have hs : 0 < 2 ^ s := Nat.pow_pos (by omega)
  have e : n * 2 ^ (p * (b + s)) = n * 2 ^ (p * b) * (2 ^ s) ^ p := by
    rw [Nat.mul_add, Nat.pow_add, ← Nat.mul_assoc, ← Nat.pow_mul, Nat.mul_comm s p]
  have hpos : 0 < (2 ^ s) ^ p := Nat.pow_pos hs
  unfold isR at h
  rw [e] at h
  constructor
  · refine Nat.le_of_mul_le_mul_right ?_ hpos
    rw [← Nat.mul_pow]
    exact Nat.le_trans (Nat.pow_le_pow_left (Nat.div_mul_le_self x _) p) h.1
  · refine Nat.lt_of_mul_lt_mul_right (a := (2 ^ s) ^ p) ?_
    rw [← Nat.mul_pow]
    refine Nat.lt_of_lt_of_le h.2 (Nat.pow_le_pow_left ?_ p)
    have := Nat.lt_div_mul_add hs (a := x)
    rw [Nat.add_mul]
    omega
theorem isR_mono {n p b x y : Nat} (hp : p ≠ 0) (hx : isR n p b x) (hy : isR (n + 1) p b y) : x ≤ y := by
  have h1 : n * 2 ^ (p * b) ≤ (n + 1) * 2 ^ (p * b) := Nat.mul_le_mul_right _ (by omega)
  have := (Nat.pow_lt_pow_iff_left hp).1 (Nat.lt_of_le_of_lt (Nat.le_trans hx.1 h1) hy.2)
  omega
def h120 (a b : Int) := p120 0 a b
def h116 (a b c : Int) := p116 h120 0 a b c
def h115 (a : Int) (b c : List Int) := p115v0 h116 0 a b c
def h114 (a : Int) (b c : List Int) := p114v0 h115 60 a b c
def h100 (a b c : Int) := p100 0 a b c
def h101 (a b : Int) := p101 h114 0 a b
theorem h101_is {n p : Nat} (hn : n ≤ 1000) (hp : p = 2 ∨ p = 3) : ∃ x : Nat, h101 (n : Int) (p : Int) = some (x : Int) ∧ x < 2 ^ 37 ∧ isR n p 32 x := by
  have hbig := big hn hp (Nat.le_refl 32)
  obtain ⟨x, x1, x2, x3, x4⟩ := L114_is (d115 := h115) 60 n p (n * 2 ^ (p * 32)) (by omega) (fun x hx => p115_is (T := 0) hx hn (p116_is (c120 := h120) (N := 0) (fun a b ha hb => p120_is (N := 0) ha hb) (by omega) hn hp)) 39 0 (2 ^ 38) 60 (by omega) (by omega) (by omega) (by omega) (by rcases hp with rfl | rfl <;> simp) (Nat.lt_of_lt_of_le hbig (Nat.pow_le_pow_left (by decide) p))
  have hx := (Nat.pow_lt_pow_iff_left (show p ≠ 0 by omega)).1 (Nat.lt_of_le_of_lt x1 hbig)
  refine ⟨x, ?_, hx, x1, x2⟩
  unfold h101 p101 h114 p114v0
  rw [show (274877906944 : Int) = ((2 ^ 38 : Nat) : Int) from rfl, show (0 : Int) = ((0 : Nat) : Int) from rfl, x4]
  simp only
  rw [wrap_u .u64 rfl (by omega) (by have : x < 2 ^ 64 := by omega
                                     exact_mod_cast this)]
theorem h76_tot (n d b : Int) : (¬ may n d b ∧ h76 n d b = some (0, 1)) ∨ (∃ n' p b' x : Nat, n = n' ∧ d = p ∧ b = b' ∧ n' ≤ 1000 ∧ (p = 2 ∨ p = 3) ∧ b' ≤ 32 ∧ x < 2 ^ 37 ∧ isR n' p b' x ∧ h76 n d b = some ((x : Int), 0)) := by
  by_cases h : may n d b
  · have hh := h
    unfold may at hh
    obtain ⟨x, x1, x2, x3⟩ := h76_is (n := n.toNat) (p := d.toNat) (b := b.toNat) (by omega) (by omega) (by omega)
    rw [Int.toNat_of_nonneg hh.1, Int.toNat_of_nonneg (by omega), Int.toNat_of_nonneg hh.2.2.2.1] at x1
    exact Or.inr ⟨n.toNat, d.toNat, b.toNat, x, by omega, by omega, by omega, by omega, by omega, by omega, x2, x3, x1⟩
  · exact Or.inl ⟨h, h76_no h⟩
theorem p75_is {c100 : Int → Int → Int → Option Bool} {c101 : Int → Int → Option Int} {n d b : Int} {r : Int × Int} (F : ∀ n d b, c100 n d b = some (decide (may n d b))) (F2 : ∀ n p : Nat, n ≤ 1000 → p = 2 ∨ p = 3 → ∃ x : Nat, c101 (n : Int) (p : Int) = some (x : Int) ∧ x < 2 ^ 37 ∧ isR n p 32 x) (h : h76 n d b = some r) : p75 c100 c101 0 n d b = some r := by
  unfold p75
  rw [F]
  rcases h76_tot n d b with ⟨h1, h2⟩ | ⟨n', p, b', x, rfl, rfl, rfl, h1, h2, h3, h4, h5, h6⟩
  · rw [h2] at h; injection h with h; subst h
    simp only [h1, decide_false, Bool.not_false, cond_true]
  · rw [h6] at h; injection h with h; subst h
    have hm : may (n' : Int) (p : Int) (b' : Int) := by unfold may; omega
    obtain ⟨y, y1, y2, y3⟩ := F2 n' p h1 h2
    have e1 : isub .i64 32 (b' : Int) = ((32 - b' : Nat) : Int) := by rw [isub_i (by omega) (by omega)]; omega
    simp only [hm, decide_true, Bool.not_true, cond_false, y1, e1, show ¬ (((32 - b' : Nat) : Int) < 0) by omega, decide_false]
    rw [shrn (by omega)]
    have h7 : isR n' p b' (y / 2 ^ (32 - b')) := isR_shift (by omega) (by rw [show b' + (32 - b') = 32 by omega]; exact y3)
    rw [isR_uniq (by omega) h5 h7]
theorem E75 : EntOK FT XT 75 (en75 h76) := ok75 h100 h101 (ok100 fun _ _ _ _ h => ⟨0, h⟩) (ok101 h114 (ok114v0 h115 (ok115v0 h116 (ok116 h120 (ok120 fun _ _ _ h => ⟨0, h⟩) fun _ _ _ _ h => ⟨0, h⟩) fun _ _ _ _ h => ⟨0, h⟩) fun _ _ _ _ h => ⟨60, h⟩) fun _ _ _ h => ⟨0, h⟩) fun n d b r h => ⟨0, p75_is (fun n d b => p100_is 0 n d b) (fun n p => h101_is) h⟩
def kk77 (x n d b : Int) := p77 h76 0 x n d b
def kk78 (n d : Int) := p78 h76 0 n d
theorem E77 : EntOK FT XT 77 (en77 kk77) := ok77 h76 E75 fun _ _ _ _ _ h => ⟨0, h⟩
theorem E78 : EntOK FT XT 78 (en78 kk78) := ok78 h76 E75 fun _ _ _ h => ⟨0, h⟩
theorem h76_some (n d b : Int) : ∃ x : Nat, ∃ e : Int, h76 n d b = some ((x : Int), e) ∧ x < 2 ^ 37 ∧ (e = 0 ∨ e = 1 ∧ x = 0) := by
  rcases h76_tot n d b with ⟨h1, h2⟩ | ⟨n', p, b', x, rfl, rfl, rfl, h1, h2, h3, h4, h5, h6⟩
  · exact ⟨0, 1, h2, by omega, Or.inr ⟨rfl, rfl⟩⟩
  · exact ⟨x, 0, h6, h4, Or.inl rfl⟩
theorem k78_some (n d : Int) : ∃ r, kk78 n d = some r := by
  obtain ⟨x, e, h1, h2⟩ := h76_some n d 32
  unfold kk78 p78
  rw [h1]
  exact ⟨_, rfl⟩
theorem p79_is (n d : Int) : p79 h76 0 n d = kk78 n d := by
  obtain ⟨x, e, h1, h2⟩ := h76_some n d 32
  unfold kk78 p78 p79
  rw [h1]
  simp only
  rw [show (4294967296 : Int) = ((4294967296 : Nat) : Int) from rfl, irem_n, wrap_u32, wrap_u32]
  congr 1
  norm_cast
  omega
theorem E79 : EntOK FT XT 79 (en79 kk78) := ok79 h76 Eh76 fun n d r h => ⟨0, by rw [p79_is]; exact h⟩
theorem p77_is {c75 : Int → Int → Int → Option (Int × Int)} {N : Nat} {x n d b : Int} {r : Int × Int} (F : c75 n d b = some r) : p77 c75 N x n d b = some (r.2 == 0 && r.1 == x) := by
  unfold p77
  rw [F]
  cases h : r.2 == 0 <;> simp [h]
theorem p67_is {c75 c76 : Int → Int → Int → Option (Int × Int)} {c77 : Int → Int → Int → Int → Option Bool} {c78 c79 : Int → Int → Option Int} {n d b e w : Int} {x : Nat} (F1 : c75 n d b = some ((x : Int), e)) (F2 : c76 n d b = some ((x : Int), e))
    (F3 : ∀ y, c77 y n d b = some (e == 0 && (x : Int) == y)) (F4 : c78 n d = some w) (F5 : c79 n d = some w) (hx : x < 2 ^ 37) : p67 c75 c76 c77 c78 c79 (some true) 0 n d b = some true := by
  have hne : ((x : Int) == ixor .u64 (x : Int) 1) = false := by
    rw [show (1 : Int) = ((1 : Nat) : Int) from rfl, ixor_u .u64 rfl x 1 (by have : x < 2 ^ 64 := by omega
                                                                             exact this) (by decide), beq_eq_false_iff_ne]
    intro h
    have h2 : x = x ^^^ 1 := by exact_mod_cast h
    have h3 : x ^^^ (x ^^^ 1) = 1 := by rw [← Nat.xor_assoc, Nat.xor_self, Nat.zero_xor]
    rw [← h2, Nat.xor_self] at h3
    omega
  unfold p67
  simp only [F1, F2, F3, F4, F5, beq_self_eq_true, cond_true, Bool.and_true, hne, Bool.and_false, Bool.not_false]
def f67 (a b c : Int) : Option Bool := some true
theorem F80 : f80 = some true := by unfold f80; exact rfl
theorem E67 : EntOK FT XT 67 (en67 f67) := ok67 h76 h76 kk77 kk78 kk78 f80 E75 Eh76 E77 E78 E79 E80 (fun n d b r h => ⟨0, by
  injection h with h; subst h
  obtain ⟨x, e, h1, h2, _⟩ := h76_some n d b
  obtain ⟨w, hw⟩ := k78_some n d
  rw [F80]
  exact p67_is h1 h1 (fun y => p77_is h1) hw hw h2⟩)
theorem law67 (z0 z1 z2 : Int) (h0 : (Lit.int .i64 z0).wf = true) (h1 : (Lit.int .i64 z1).wf = true) (h2 : (Lit.int .i64 z2).wf = true) :
    Ans FT XT 67 (encL [Sh.int .i64, Sh.int .i64, Sh.int .i64] (z0, (z1, (z2, ())))) [] (.bool true) [] :=
  E67.2 (z0, (z1, (z2, ()))) true rfl
theorem p69_is {c75 : Int → Int → Int → Option (Int × Int)} {c77 : Int → Int → Int → Int → Option Bool} {n d b : Int}
    (F1 : ∀ n d b, ¬ may n d b → c75 n d b = some (0, 1)) (F2 : ∀ n p b : Nat, n ≤ 1000 → p = 2 ∨ p = 3 → b ≤ 32 → ∃ x : Nat, c75 (n : Int) (p : Int) (b : Int) = some ((x : Int), 0) ∧ x < 2 ^ 37 ∧ isR n p b x)
    (F3 : ∀ n d b, ¬ may n d b → c77 0 n d b = some false) : p69 c75 c77 (some true) 0 n d b = some true := by
  unfold p69
  by_cases h : may n d b
  · have hh := h
    unfold may at hh
    obtain ⟨n', rfl⟩ : ∃ n' : Nat, n = n' := ⟨n.toNat, by omega⟩
    obtain ⟨p, rfl⟩ : ∃ p : Nat, d = p := ⟨d.toNat, by omega⟩
    obtain ⟨b', rfl⟩ : ∃ b' : Nat, b = b' := ⟨b.toNat, by omega⟩
    have hp : p = 2 ∨ p = 3 := by omega
    obtain ⟨x, x1, x2, x3⟩ := F2 n' p b' (by omega) hp (by omega)
    simp only [x1, bne_self_eq_false, cond_false]
    have half : b' < 32 → ∃ z : Nat, c75 (n' : Int) (p : Int) ((b' + 1 : Nat) : Int) = some ((z : Int), 0) ∧ (iquo .u64 (z : Int) 2 != (x : Int)) = false := by
      intro hb
      obtain ⟨z, z1, z2, z3⟩ := F2 n' p (b' + 1) (by omega) hp (by omega)
      refine ⟨z, z1, ?_⟩
      have := isR_uniq (by omega) x3 (isR_shift (s := 1) (by omega) z3)
      rw [show (2 : Int) = ((2 : Nat) : Int) from rfl, quou (by omega), this]
      exact bne_self_eq_false _
    have tail : (bif decide ((b' : Int) < 32) then
          match c75 (n' : Int) (p : Int) (iadd .i64 (b' : Int) (1 : Int)) with
          | none => none
          | some r8 =>
            bif (r8.2 != (0 : Int)) then
              some false
            else
              bif ((iquo .u64 r8.1 (2 : Int)) != (x : Int)) then
                some false
              else
                match some true with
                | none => none
                | some r9 =>
                  some r9
        else
          match some true with
          | none => none
          | some r10 =>
            some r10) = some true := by
      by_cases hb : b' < 32
      · obtain ⟨z, z1, z2⟩ := half hb
        simp only [show (b' : Int) < 32 by omega, decide_true, cond_true]
        rw [up1 (by omega), z1]
        simp only [bne_self_eq_false, cond_false, z2]
      · simp only [show ¬ (b' : Int) < 32 by omega, decide_false, cond_false]
    by_cases hn : n' < 1000
    · obtain ⟨y, y1, y2, y3⟩ := F2 (n' + 1) p b' (by omega) hp (by omega)
      have hxy := isR_mono (by omega) x3 y3
      simp only [show (n' : Int) < 1000 by omega, decide_true, cond_true]
      rw [up1 (by omega), y1]
      simp only [bne_self_eq_false, cond_false, show ¬ ((y : Int) < (x : Int)) by omega, decide_false]
      exact tail
    · simp only [show ¬ (n' : Int) < 1000 by omega, decide_false, cond_false]
      exact tail
  · rw [F1 n d b h]
    simp only [show ((1 : Int) != 0) = true from rfl, beq_self_eq_true, cond_true, F3 n d b h, Bool.not_false]
def f69 (a b c : Int) : Option Bool := some true
theorem E69 : EntOK FT XT 69 (en69 f69) := ok69 h76 kk77 f80 E75 E77 E80 (fun n d b r h => ⟨0, by
  injection h with h; subst h
  rw [F80]
  exact p69_is (fun n d b => h76_no) (fun n p b h1 h2 h3 => h76_is h1 h2 h3) (fun n d b h => p77_is (h76_no h))⟩)
theorem law69 (z0 z1 z2 : Int) (h0 : (Lit.int .i64 z0).wf = true) (h1 : (Lit.int .i64 z1).wf = true) (h2 : (Lit.int .i64 z2).wf = true) :
    Ans FT XT 69 (encL [Sh.int .i64, Sh.int .i64, Sh.int .i64] (z0, (z1, (z2, ())))) [] (.bool true) [] :=
  E69.2 (z0, (z1, (z2, ()))) true rfl
end Go.Proofs.YtilhmbjcpflodaaE
