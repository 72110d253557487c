/- Contracts of what most chapters share: texts joined, numbers laid and read, bytes compared and copied. -/
import Derived.Test.YtdlmhclopdkhcaaDoorEvN
import Derived.Test.YtdlmhclopdkhcaaDoorEvHN3
namespace Go.Proofs.YtdlmhclopdkhcaaDoorE
open Go
set_option linter.unusedSimpArgs false
set_option linter.unusedVariables false
def h64 (a : Int) := p64v0 0 a
theorem R64 : REntOK FT XT 64 (rn64v0 h64) := ok64v0 fun _ _ h => ⟨0, h⟩
theorem h64_is {n : Nat} (h : n ≤ 1099511627776) : h64 (n : Int) = some ((0, ()), ([], ())) := by
 unfold h64 p64v0
 have e : isub .i64 (n : Int) 0 = (n : Int) := by rw [isub_i (by omega) (by omega)]; omega
 rw [e]
 by_cases h0 : n = 0
 ·subst h0; rfl
 ·simp only [show ¬ ((n : Int) < 0) by omega, decide_false, cond_false, show (n : Int) > 0 by omega, decide_true, cond_true, show (0 : Int) ≤ (n : Int) by omega, show (n : Int) * ((1 : Nat) : Int) ≤ 1099511627776 by omega, show (n : Int) ≤ 1099511627776 by omega, Bool.and_self, Int.toNat_natCast]
def fl (ll : List (List Int)) (i : Nat) : Nat := (ll.take i).flatten.length
theorem fl_succ {ll : List (List Int)} {i : Nat} (h : i < ll.length) : fl ll (i + 1) = fl ll i + ll[i].length := by
 have e : ll.take (i + 1) = ll.take i ++ [ll[i]] := by rw [List.take_add_one, List.getElem?_eq_getElem h]; rfl
 unfold fl
 rw [e, List.flatten_append, List.length_append, List.flatten_cons, List.flatten_nil, List.append_nil]
theorem fl_le (ll : List (List Int)) (i : Nat) : fl ll i ≤ ll.flatten.length := by
 unfold fl
 have : ll.flatten = (ll.take i).flatten ++ (ll.drop i).flatten := by rw [← List.flatten_append, List.take_append_drop]
 rw [this, List.length_append]
 omega
theorem L1_0_is {d64 : Int → Option ((Nat × Unit) × ((List Int) × Unit))} (N : Nat) (q : List (List Int) → Int → Option (List Int)) (v1 ll : List (List Int)) (hb : ll.flatten.length ≤ 2 ^ 40) (hl : ll.length ≤ 2 ^ 40) :
  ∀ d i fuel, i + d = ll.length → d < fuel → L1_0 d64 N q fuel v1 ((fl ll i : Nat) : Int) ll ((ll.length : Nat) : Int) (i : Int) = q v1 ((ll.flatten.length : Nat) : Int) := by
 intro d
 induction d with
 | zero =>
  intro i fuel hd hf
  obtain ⟨m, rfl⟩ : ∃ m, fuel = m + 1 := ⟨fuel - 1, by omega⟩
  obtain rfl : i = ll.length := by omega
  simp only [L1_0, show ¬ (((ll.length : Nat) : Int) < ((ll.length : Nat) : Int)) by omega, decide_false, cond_false]
  congr 2
  unfold fl
  rw [List.take_length]
 | succ d ih =>
  intro i fuel hd hf
  obtain ⟨m, rfl⟩ : ∃ m, fuel = m + 1 := ⟨fuel - 1, by omega⟩
  have hi : i < ll.length := by omega
  have h1 := fl_succ hi
  have h2 := fl_le ll (i + 1)
  have e : iadd .i64 ((fl ll i : Nat) : Int) ((ll[i].length : Nat) : Int) = ((fl ll (i + 1) : Nat) : Int) := by rw [addn (by omega), h1]
  simp only [L1_0, show ((i : Int) < ((ll.length : Nat) : Int)) by omega, decide_true, cond_true, geti_nat, List.getElem?_eq_getElem hi, e, show ¬ (((fl ll (i + 1) : Nat) : Int) < 0) by omega, decide_false, cond_false]
  rw [up1 (by omega)]
  exact ih (i + 1) m (by omega) (by omega)
theorem L1_1_is {d64 : Int → Option ((Nat × Unit) × ((List Int) × Unit))} (N : Nat) (q : Nat → List Int → Option (List Int)) (ll : List (List Int)) (hb : ll.flatten.length ≤ 2 ^ 40) (hl : ll.length ≤ 2 ^ 40) :
  ∀ d i fuel, i + d = ll.length → d < fuel → L1_1 d64 N q fuel (fl ll i) ll ((ll.length : Nat) : Int) (i : Int) (ll.take i).flatten = q ll.flatten.length ll.flatten := by
 intro d
 induction d with
 | zero =>
  intro i fuel hd hf
  obtain ⟨m, rfl⟩ : ∃ m, fuel = m + 1 := ⟨fuel - 1, by omega⟩
  obtain rfl : i = ll.length := by omega
  simp only [L1_1, show ¬ (((ll.length : Nat) : Int) < ((ll.length : Nat) : Int)) by omega, decide_false, cond_false]
  unfold fl
  rw [List.take_length]
 | succ d ih =>
  intro i fuel hd hf
  obtain ⟨m, rfl⟩ : ∃ m, fuel = m + 1 := ⟨fuel - 1, by omega⟩
  have hi : i < ll.length := by omega
  have h1 := fl_succ hi
  have h2 := fl_le ll (i + 1)
  have e : (ll.take i).flatten ++ ll[i] = (ll.take (i + 1)).flatten := by
   have e : ll.take (i + 1) = ll.take i ++ [ll[i]] := by rw [List.take_add_one, List.getElem?_eq_getElem hi]; rfl
   rw [e, List.flatten_append, List.flatten_cons, List.flatten_nil, List.append_nil]
  simp only [L1_1, show ((i : Int) < ((ll.length : Nat) : Int)) by omega, decide_true, cond_true, geti_nat, List.getElem?_eq_getElem hi, Nat.mul_one, show ((ll.take i).flatten.length == fl ll i) = true from beq_self_eq_true _, ← h1, show fl ll (i + 1) ≤ 1099511627776 by omega, Bool.and_self, e]
  rw [up1 (by omega)]
  exact ih (i + 1) m (by omega) (by omega)
def f1 (ll : List (List Int)) : Option (List Int) := if ll.length ≤ 1099511627776 ∧ ll.flatten.length ≤ 1099511627776 then some ll.flatten else none
theorem f1_is {ll : List (List Int)} (h1 : ll.length ≤ 1099511627776) (h2 : ll.flatten.length ≤ 1099511627776) : f1 ll = some ll.flatten := if_pos ⟨h1, h2⟩
theorem p1_is {ll : List (List Int)} {N : Nat} (hN : ll.length < N) (h1 : ll.length ≤ 2 ^ 40) (h2 : ll.flatten.length ≤ 2 ^ 40) : p1 h64 N ll = some ll.flatten := by
 unfold p1
 refine (L1_0_is N _ ll ll h2 h1 ll.length 0 N (by omega) hN).trans ?_
 rw [h64_is (by omega)]
 refine (L1_1_is N _ ll h2 h1 ll.length 0 N (by omega) hN).trans ?_
 simp only [beq_self_eq_true, cond_true]
theorem E1 : EntOK FT XT 1 (en1 f1) := ok1 h64 R64 fun ll r h => ⟨ll.length + 1, by
 unfold f1 at h
 split at h <;> try (cases h; done)
 rename_i hc
 rw [p1_is (by omega) hc.1 hc.2]; exact h⟩
theorem E46 : EntOK FT XT 46 (en46 f1) := ok46 f1 E1 fun ll r h => ⟨0, by
 unfold p46
 rw [h]
 simp only [beq_self_eq_true, cond_true]⟩
def h48 (a b : Nat) (l : List Int) := p48v0 20 a b l
theorem R48 : REntOK FT XT 48 (rn48v0 h48) := ok48v0 fun _ _ _ _ h => ⟨20, h⟩
def h19 (n w : Int) (b : Bool) := p19 h48 20 n w b
theorem E19 : EntOK FT XT 19 (en19 h19) := ok19 h48 R48 fun _ _ _ _ h => ⟨20, h⟩
def le8 (n : Nat) : List Nat := [n % 256, n / 2 ^ 8 % 256, n / 2 ^ 16 % 256, n / 2 ^ 24 % 256, n / 2 ^ 32 % 256, n / 2 ^ 40 % 256, n / 2 ^ 48 % 256, n / 2 ^ 56 % 256]
def lay (x : Int) (j : Nat) : Int := IntKind.wrap .u8 (ishr .u64 x (imul .i64 8 (j : Int)))
theorem lay_is (n : Nat) {j : Nat} (hj : j ≤ 8) : lay (n : Int) j = ((n / 2 ^ (8 * j) % 256 : Nat) : Int) := by
 unfold lay
 rw [show (8 : Int) = ((8 : Nat) : Int) from rfl, muln (by omega), shr64n (by omega), w8]
theorem h19_le8 (x : Int) : h19 x 8 true = some ([lay x 0, lay x 1, lay x 2, lay x 3, lay x 4, lay x 5, lay x 6, lay x 7], 0) := by kernel_rfl
theorem put_le8 (n : Nat) : h19 (n : Int) 8 true = some (nI (le8 n), 0) := by
 rw [h19_le8]
 simp only [lay_is n (show 0 ≤ 8 by omega), lay_is n (show 1 ≤ 8 by omega), lay_is n (show 2 ≤ 8 by omega), lay_is n (show 3 ≤ 8 by omega), lay_is n (show 4 ≤ 8 by omega), lay_is n (show 5 ≤ 8 by omega), lay_is n (show 6 ≤ 8 by omega), lay_is n (show 7 ≤ 8 by omega)]
 simp [le8, nI]
def h21 (l : List Int) (b : Bool) := p21 20 l b
theorem E21 : EntOK FT XT 21 (en21 h21) := ok21 fun _ _ _ h => ⟨20, h⟩
theorem get_le {a b c d : Nat} (ha : a < 256) (hb : b < 256) (hc : c < 256) (hd : d < 256) : h21 [(a : Int), (b : Int), (c : Int), (d : Int)] true = some (((a + b * 256 + c * 65536 + d * 16777216 : Nat) : Int), 0) := by
 have e : h21 [(a : Int), (b : Int), (c : Int), (d : Int)] true = some (ior .u64 (ior .u64 (ior .u64 (ior .u64 0 (ishl .u64 (IntKind.wrap .u64 (a : Int)) (imul .i64 8 0))) (ishl .u64 (IntKind.wrap .u64 (b : Int)) (imul .i64 8 1))) (ishl .u64 (IntKind.wrap .u64 (c : Int)) (imul .i64 8 2))) (ishl .u64 (IntKind.wrap .u64 (d : Int)) (imul .i64 8 3)), 0) := by kernel_rfl
 have step : ∀ (x y k : Nat), k ≤ 24 → x < 2 ^ k → y < 256 → ior .u64 (x : Int) (ishl .u64 (y : Int) ((k : Nat) : Int)) = ((x + y * 2 ^ k : Nat) : Int) := fun x y k hk hx hy => by
  have hp : 2 ^ k ≤ 2 ^ 24 := Nat.pow_le_pow_right (by omega) hk
  have hyk : y * 2 ^ k ≤ 255 * 2 ^ 24 := Nat.mul_le_mul (by omega) hp
  rw [shl64 (by omega), Nat.mod_eq_of_lt (by omega), or64 (by omega) (by omega), Nat.or_comm, or8 k hx, Nat.add_comm]
 rw [e, w64 (by omega), w64 (by omega), w64 (by omega), w64 (by omega), show imul .i64 8 0 = ((0 : Nat) : Int) from rfl, show imul .i64 8 1 = ((8 : Nat) : Int) from rfl, show imul .i64 8 2 = ((16 : Nat) : Int) from rfl, show imul .i64 8 3 = ((24 : Nat) : Int) from rfl, show (0 : Int) = ((0 : Nat) : Int) from rfl]
 rw [step 0 a 0 (by omega) (by omega) ha, step _ b 8 (by omega) (by omega) hb, step _ c 16 (by omega) (by omega) hc, step _ d 24 (by omega) (by omega) hd]
 rw [show 0 + a * 2 ^ 0 + b * 2 ^ 8 + c * 2 ^ 16 + d * 2 ^ 24 = a + b * 256 + c * 65536 + d * 16777216 by omega]
theorem nI_beq (a b : List Nat) : (nI a == nI b) = (a == b) := by
 by_cases h : a = b
 ·rw [h, beq_self_eq_true, beq_self_eq_true]
 ·rw [beq_eq_false_iff_ne.2 h, beq_eq_false_iff_ne.2 (fun hh => h (nI_inj hh))]
end Go.Proofs.YtdlmhclopdkhcaaDoorE
