/- Chapter 01: octets in and out. -/
import Derived.Test.YtjkdflcccoeggaaEvBa
import Derived.Test.YtjkdflcccoeggaaEvOp
namespace Go.Proofs.YtjkdflcccoeggaaE
open Go
set_option linter.unusedSimpArgs false
set_option linter.unusedVariables false

theorem E61 : EntOK FT XT 61 (en61 f108) := ⟨rfl, fun v r h => clone_ans (g := 61) rfl (fun _ => rfl) h⟩
theorem xor8 {a b : Nat} (ha : a < 256) (hb : b < 256) : ixor .u8 (a : Int) (b : Int) = ((a ^^^ b : Nat) : Int) := ixor_u .u8 rfl a b ha hb
theorem or8' {a b : Nat} (ha : a < 256) (hb : b < 256) : ior .u8 (a : Int) (b : Int) = ((a ||| b : Nat) : Int) := ior_u .u8 rfl a b ha hb
/-! ### exclusive or -/
def zx : List Nat → List Nat → List Nat
  | a :: t, b :: u => (a ^^^ b) :: zx t u
  | _, _ => []
theorem zx_len : ∀ {a b : List Nat}, a.length = b.length → (zx a b).length = a.length
  | [], [], _ => rfl
  | [], _ :: _, h => by cases h
  | _ :: _, [], h => by cases h
  | a :: t, b :: u, h => by simp only [zx, List.length_cons]; rw [zx_len (by simpa using h)]
theorem zx_bel : ∀ {a b : List Nat}, bel 256 a → bel 256 b → bel 256 (zx a b)
  | [], b, _, _ => fun x hx => by cases b <;> cases hx
  | _ :: _, [], _, _ => fun x hx => by cases hx
  | a :: t, b :: u, ha, hb => fun x hx => by
    simp only [zx, List.mem_cons] at hx
    rcases hx with rfl | hx
    · have h1 : a < 2 ^ 8 := ha a (by simp)
      have h2 : b < 2 ^ 8 := hb b (by simp)
      exact Nat.xor_lt_two_pow h1 h2
    · exact zx_bel (fun y hy => ha y (by simp [hy])) (fun y hy => hb y (by simp [hy])) x hx
theorem zx_back : ∀ {a b : List Nat}, a.length = b.length → zx (zx a b) b = a
  | [], [], _ => rfl
  | [], _ :: _, h => by cases h
  | _ :: _, [], h => by cases h
  | a :: t, b :: u, h => by simp only [zx]; rw [zx_back (by simpa using h), Nat.xor_assoc, Nat.xor_self, Nat.xor_zero]
theorem at_mid (p t : List Nat) (x : Nat) : (nI (p ++ x :: t))[p.length]? = some ((x : Nat) : Int) := by
  rw [nI_get, List.getElem?_append_right (Nat.le_refl _), Nat.sub_self]; rfl
theorem geti_mid (p t : List Nat) (x : Nat) : geti (nI (p ++ x :: t)) ((p.length : Nat) : Int) = some ((x : Nat) : Int) := by
  rw [geti_nat, at_mid]
theorem set_mid (p t : List Nat) (x y : Nat) : (nI (p ++ x :: t)).set p.length ((y : Nat) : Int) = nI ((p ++ [y]) ++ t) := by
  rw [nI_set, List.set_append_right _ _ (Nat.le_refl _), Nat.sub_self]; simp
theorem snoc_app (p t : List Nat) (x : Nat) : p ++ x :: t = (p ++ [x]) ++ t := by simp
theorem snoc_len (p : List Nat) (x : Nat) : (p ++ [x]).length = p.length + 1 := by simp
theorem mid_lt (p t : List Nat) (x : Nat) : decide (((p.length : Nat) : Int) < (((p ++ x :: t).length : Nat) : Int)) = true := by simp; omega
theorem end_lt (p : List Nat) : decide (((p.length : Nat) : Int) < (((p ++ ([] : List Nat)).length : Nat) : Int)) = false := by simp
theorem inc_mid (p : List Nat) (x : Nat) (h : p.length ≤ 100000) : iadd .i64 ((p.length : Nat) : Int) 1 = (((p ++ [x]).length : Nat) : Int) := by
  rw [snoc_len]; exact addn (a := p.length) (b := 1) (by omega)
theorem L44_is {N : Nat} {q : Nat → List Int → Option ((List Int) × Int)} : ∀ (ta tb d bp : List Nat) (fuel : Nat), d.length = bp.length → ta.length = tb.length → ta.length < fuel → bel 256 ta → bel 256 tb → (d ++ ta).length ≤ 100000 →
    L44_0 f108 N q fuel (d ++ ta).length (nI (bp ++ tb)) (((bp ++ tb).length : Nat) : Int) ((d.length : Nat) : Int) (nI (d ++ ta)) = q (d ++ ta).length (nI (d ++ zx ta tb))
  | [], [], d, bp, fuel + 1, hp, _, _, _, _, _ => by
    rw [L44_0, hp, end_lt, cond_false]; rfl
  | [], _ :: _, _, _, _ + 1, _, h, _, _, _, _ => by cases h
  | _ :: _, [], _, _, _ + 1, _, h, _, _, _, _ => by cases h
  | x :: ta, y :: tb, d, bp, fuel + 1, hp, hl, hf, ha, hb, hn => by
    have hn2 : d.length + ta.length + 1 ≤ 100000 := by simpa [Nat.add_assoc] using hn
    have e1 : geti (nI (bp ++ y :: tb)) ((d.length : Nat) : Int) = some ((y : Nat) : Int) := by rw [hp]; exact geti_mid bp tb y
    have hx : x < 256 := ha x (by simp)
    have hy : y < 256 := hb y (by simp)
    have ih := L44_is (N := N) (q := q) ta tb (d ++ [x ^^^ y]) (bp ++ [y]) fuel (by rw [snoc_len, snoc_len, hp]) (by simpa using hl) (by simpa using hf) (fun z hz => ha z (by simp [hz])) (fun z hz => hb z (by simp [hz])) (by simp; omega)
    rw [L44_0]
    rw [show decide (((d.length : Nat) : Int) < (((bp ++ y :: tb).length : Nat) : Int)) = true from by rw [hp]; exact mid_lt bp tb y, cond_true, e1]
    simp only [Int.toNat_natCast, Nat.zero_add, Nat.mul_one, at_mid]
    rw [decide_eq_true (show (0 : Int) ≤ ((d.length : Nat) : Int) by omega), mid_lt, Bool.and_self, cond_true, cond_true]
    rw [show decide (d.length < (nI (d ++ x :: ta)).length) = true from decide_eq_true (by rw [nI_len]; simp), cond_true, xor8 hx hy, set_mid, inc_mid d (x ^^^ y) (by omega)]
    rw [show (d ++ [x ^^^ y] ++ ta).length = (d ++ x :: ta).length by simp, ← snoc_app bp tb y] at ih
    refine ih.trans ?_
    simp only [zx, List.append_assoc, List.cons_append, List.nil_append]
def xor01 (a b : List Nat) : List Nat × Nat := if a.length = b.length then (zx a b, 0) else ([], 1)
def enB (x : List Nat × Nat) : List Int × Int := (nI x.1, ((x.2 : Nat) : Int))
def h44 (a b : List Int) := p44 f108 400 a b
theorem E44 : EntOK FT XT 44 (en44 h44) := ok44 f108 E61 fun _ _ _ h => ⟨400, h⟩
theorem h44_is {a b : List Nat} (ha : bel 256 a) (hb : bel 256 b) (hl : a.length ≤ 300) : h44 (nI a) (nI b) = some (enB (xor01 a b)) := by
  unfold h44 p44 xor01
  rw [nI_len, nI_len]
  by_cases h : a.length = b.length
  · rw [if_pos h, h, bne_self_eq_false, cond_false, f108_is (by rw [nI_len]; omega)]
    simp only [nI_len]
    have := L44_is (N := 400) (q := fun (y9 : Nat) (y10 : List Int) =>
          bif (decide ((0 + (y9 * 1)) ≤ (List.length y10))) then
            some ((List.take y9 (List.drop 0 y10)), (0 : Int))
          else none) a b [] [] 400 rfl h (by omega) ha hb (by simp; omega)
    refine Eq.trans (show _ = _ from this) ?_
    have hz := zx_len h
    simp only [List.nil_append, nI_len, hz, List.drop_zero]
    rw [decide_eq_true (by omega), cond_true, List.take_of_length_le (by rw [nI_len, hz]; exact Nat.le_refl _)]; rfl
  · rw [if_neg h, bne_iff_ne.2 (by omega), cond_true]; rfl
theorem L45_is {N : Nat} {q : Nat → Nat → List Int → Option ((List Int) × Int)} : ∀ (ta tb d z ap bp : List Nat) (fuel : Nat), ap.length = d.length → bp.length = d.length → ta.length = tb.length → z.length = ta.length → ta.length < fuel → bel 256 ta → bel 256 tb → d.length + ta.length ≤ 100000 →
    L45_0 N q fuel (nI (ap ++ ta)) (nI (bp ++ tb)) (ap ++ ta).length (ap ++ ta).length ((d.length : Nat) : Int) (nI (d ++ z)) = q (ap ++ ta).length (ap ++ ta).length (nI (d ++ zx ta tb))
  | [], [], d, [], ap, bp, fuel + 1, hp, _, _, _, _, _, _, _ => by
    rw [L45_0, nI_len, ← hp, end_lt, cond_false]; rfl
  | [], [], d, _ :: _, ap, bp, fuel + 1, _, _, _, h, _, _, _, _ => by cases h
  | [], _ :: _, _, _, _, _, _ + 1, _, _, h, _, _, _, _, _ => by cases h
  | _ :: _, [], _, _, _, _, _ + 1, _, _, h, _, _, _, _, _ => by cases h
  | _ :: _, _ :: _, _, [], _, _, _ + 1, _, _, _, h, _, _, _, _ => by cases h
  | x :: ta, y :: tb, d, w :: z, ap, bp, fuel + 1, hp, hq, hl, hz, hf, ha, hb, hn => by
    rw [List.length_cons] at hn
    have e1 : geti (nI (ap ++ x :: ta)) ((d.length : Nat) : Int) = some ((x : Nat) : Int) := by rw [← hp]; exact geti_mid ap ta x
    have e2 : geti (nI (bp ++ y :: tb)) ((d.length : Nat) : Int) = some ((y : Nat) : Int) := by rw [← hq]; exact geti_mid bp tb y
    have hx : x < 256 := ha x (by simp)
    have hy : y < 256 := hb y (by simp)
    have ih := L45_is (N := N) (q := q) ta tb (d ++ [x ^^^ y]) z (ap ++ [x]) (bp ++ [y]) fuel (by rw [snoc_len, snoc_len, hp]) (by rw [snoc_len, snoc_len, hq]) (by simpa using hl) (by simpa using hz) (by simpa using hf) (fun z hz => ha z (by simp [hz])) (fun z hz => hb z (by simp [hz])) (by simp; omega)
    have hlt : decide (((d.length : Nat) : Int) < (((ap ++ x :: ta).length : Nat) : Int)) = true := by rw [← hp]; exact mid_lt ap ta x
    rw [L45_0]
    rw [nI_len, hlt, cond_true, e1]
    simp only [e2, Int.toNat_natCast, Nat.zero_add, Nat.mul_one]
    rw [decide_eq_true (show (0 : Int) ≤ ((d.length : Nat) : Int) by omega), Bool.and_self, cond_true, show decide (d.length < (nI (d ++ w :: z)).length) = true from decide_eq_true (by rw [nI_len]; simp), cond_true, xor8 hx hy, set_mid, inc_mid d (x ^^^ y) (by omega)]
    rw [← snoc_app ap ta x, ← snoc_app bp tb y] at ih
    refine ih.trans ?_
    simp only [zx, List.append_assoc, List.cons_append, List.nil_append]
def h45 (a b : List Int) := p45 400 a b
theorem E45 : EntOK FT XT 45 (en45 h45) := ok45 fun _ _ _ h => ⟨400, h⟩
theorem zeros (n : Nat) : List.replicate n (0 : Int) = nI (List.replicate n 0) := by unfold nI; rw [List.map_replicate]; rfl
theorem h45_is {a b : List Nat} (ha : bel 256 a) (hb : bel 256 b) (hl : a.length ≤ 300) : h45 (nI a) (nI b) = some (enB (xor01 a b)) := by
  unfold h45 p45 xor01
  rw [nI_len, nI_len]
  by_cases h : a.length = b.length
  · rw [if_pos h, h, bne_self_eq_false, cond_false, ← h, decide_eq_true (show (0 : Int) ≤ ((a.length : Nat) : Int) by omega), decide_eq_true (show ((a.length : Nat) : Int) ≤ ((a.length : Nat) : Int) by omega), decide_eq_true (show ((a.length : Nat) : Int) * ((1 : Nat) : Int) ≤ 1099511627776 by omega), decide_eq_true (show ((a.length : Nat) : Int) ≤ 1099511627776 by omega), Int.toNat_natCast, zeros]
    simp only [Bool.and_self, cond_true]
    have := L45_is (N := 400) (q := fun (y9 : Nat) (y10 : Nat) (y11 : List Int) =>
          bif (decide ((0 + (y9 * 1)) ≤ (List.length y11))) then
            some ((List.take y9 (List.drop 0 y11)), (0 : Int))
          else none) a b [] (List.replicate a.length 0) [] [] 400 rfl rfl h (by simp) (by omega) ha hb (by simp; omega)
    refine Eq.trans (show _ = _ from this) ?_
    have hz := zx_len h
    simp only [List.nil_append, nI_len, hz, List.drop_zero]
    rw [decide_eq_true (by omega), cond_true, List.take_of_length_le (by rw [nI_len, hz]; exact Nat.le_refl _)]; rfl
  · rw [if_neg h, bne_iff_ne.2 (by omega), cond_true]; rfl
/-! ### the same -/
theorem or_zero (a x y : Nat) : ((a ||| (x ^^^ y)) = 0) ↔ (a = 0 ∧ x = y) := by
  constructor
  · intro h
    have h1 : a = 0 := by
      apply Nat.eq_of_testBit_eq; intro i
      have := congrArg (fun n => n.testBit i) h
      simp only [Nat.testBit_or, Nat.zero_testBit, Bool.or_eq_false_iff] at this
      rw [this.1, Nat.zero_testBit]
    have h2 : x = y := by
      apply Nat.eq_of_testBit_eq; intro i
      have := congrArg (fun n => n.testBit i) h
      simp only [Nat.testBit_or, Nat.testBit_xor, Nat.zero_testBit, Bool.or_eq_false_iff] at this
      revert this
      cases x.testBit i <;> cases y.testBit i <;> simp
    exact ⟨h1, h2⟩
  · rintro ⟨rfl, rfl⟩; rw [Nat.xor_self]; rfl
theorem L47_is {N : Nat} : ∀ (ta tb ap bp : List Nat) (acc fuel : Nat), ap.length = bp.length → ta.length = tb.length → ta.length < fuel → bel 256 ta → bel 256 tb → acc < 256 → (ap ++ ta).length ≤ 100000 →
    L47_0 N (fun (y8 : Int) => some (y8 == (0 : Int))) fuel (nI (bp ++ tb)) (acc : Int) (nI (ap ++ ta)) (((ap ++ ta).length : Nat) : Int) ((ap.length : Nat) : Int) = some (acc == 0 && ta == tb)
  | [], [], ap, bp, acc, fuel + 1, _, _, _, _, _, _, _ => by
    rw [L47_0, end_lt, cond_false]
    simp only [Option.some.injEq]
    rw [show (([] : List Nat) == []) = true from rfl, Bool.and_true]
    by_cases h : acc = 0
    · subst h; rfl
    · rw [beq_eq_false_iff_ne.2 h, beq_eq_false_iff_ne.2 (by omega)]
  | [], _ :: _, _, _, _, _ + 1, _, h, _, _, _, _, _ => by cases h
  | _ :: _, [], _, _, _, _ + 1, _, h, _, _, _, _, _ => by cases h
  | x :: ta, y :: tb, ap, bp, acc, fuel + 1, hp, hl, hf, ha, hb, hc, hn => by
    have hn2 : ap.length + ta.length + 1 ≤ 100000 := by simpa [Nat.add_assoc] using hn
    have e2 : geti (nI (bp ++ y :: tb)) ((ap.length : Nat) : Int) = some ((y : Nat) : Int) := by rw [hp]; exact geti_mid bp tb y
    have hx : x < 256 := ha x (by simp)
    have hy : y < 256 := hb y (by simp)
    have hxy : x ^^^ y < 256 := Nat.xor_lt_two_pow (n := 8) hx hy
    have ho : acc ||| (x ^^^ y) < 256 := Nat.or_lt_two_pow (n := 8) hc hxy
    have ih := L47_is (N := N) ta tb (ap ++ [x]) (bp ++ [y]) (acc ||| (x ^^^ y)) fuel (by rw [snoc_len, snoc_len, hp]) (by simpa using hl) (by simpa using hf) (fun z hz => ha z (by simp [hz])) (fun z hz => hb z (by simp [hz])) ho (by simp; omega)
    rw [← snoc_app ap ta x, ← snoc_app bp tb y] at ih
    rw [L47_0, mid_lt, cond_true, geti_mid]
    simp only [e2]
    rw [xor8 hx hy, or8' hc hxy, inc_mid ap x (by omega), ih]
    congr 1
    rw [show (x :: ta == y :: tb) = (x == y && ta == tb) from rfl, ← Bool.and_assoc]
    congr 1
    rw [Bool.eq_iff_iff, beq_iff_eq, or_zero, Bool.and_eq_true, beq_iff_eq, beq_iff_eq]
def h47 (a b : List Int) := p47 400 a b
theorem E47 : EntOK FT XT 47 (en47 h47) := ok47 fun _ _ _ h => ⟨400, h⟩
theorem h47_is {a b : List Nat} (ha : bel 256 a) (hb : bel 256 b) (hl : a.length ≤ 300) : h47 (nI a) (nI b) = some (a == b) := by
  unfold h47 p47
  rw [nI_len, nI_len]
  by_cases h : a.length = b.length
  · rw [h, bne_self_eq_false, cond_false, ← h]
    exact L47_is (N := 400) a b [] [] 0 400 rfl h (by omega) ha hb (by omega) (by simp; omega)
  · rw [bne_iff_ne.2 (by omega), cond_true, beq_eq_false_iff_ne.2 (fun e => h (by rw [e]))]
/-! ### in hex -/
def dg (n : Nat) : UInt8 := ([(48 : UInt8), (49 : UInt8), (50 : UInt8), (51 : UInt8), (52 : UInt8), (53 : UInt8), (54 : UInt8), (55 : UInt8), (56 : UInt8), (57 : UInt8), (65 : UInt8), (66 : UInt8), (67 : UInt8), (68 : UInt8), (69 : UInt8), (70 : UInt8)] : List UInt8).getD n 0
def hexS (l : List Nat) : List UInt8 := l.flatMap fun x => [dg (x / 16), dg (x % 16)]
theorem hexS_snoc (l : List Nat) (x : Nat) : hexS (l ++ [x]) = hexS l ++ [dg (x / 16), dg (x % 16)] := by simp [hexS]
theorem hexS_len : ∀ l : List Nat, (hexS l).length = 2 * l.length
  | [] => rfl
  | a :: t => by
    have := hexS_len t
    simp only [hexS, List.flatMap_cons, List.length_append, List.length_cons, List.length_nil] at this ⊢
    omega
theorem dig_tab : ((List.range 16).all fun n => geti ([(48 : UInt8), (49 : UInt8), (50 : UInt8), (51 : UInt8), (52 : UInt8), (53 : UInt8), (54 : UInt8), (55 : UInt8), (56 : UInt8), (57 : UInt8), (65 : UInt8), (66 : UInt8), (67 : UInt8), (68 : UInt8), (69 : UInt8), (70 : UInt8)] : List UInt8) ((n : Nat) : Int) == some (dg n) && (List.take 1 (List.drop n ([(48 : UInt8), (49 : UInt8), (50 : UInt8), (51 : UInt8), (52 : UInt8), (53 : UInt8), (54 : UInt8), (55 : UInt8), (56 : UInt8), (57 : UInt8), (65 : UInt8), (66 : UInt8), (67 : UInt8), (68 : UInt8), (69 : UInt8), (70 : UInt8)] : List UInt8)) == [dg n])) = true := by kernel_rfl
theorem dig_at {n : Nat} (h : n < 16) : geti ([(48 : UInt8), (49 : UInt8), (50 : UInt8), (51 : UInt8), (52 : UInt8), (53 : UInt8), (54 : UInt8), (55 : UInt8), (56 : UInt8), (57 : UInt8), (65 : UInt8), (66 : UInt8), (67 : UInt8), (68 : UInt8), (69 : UInt8), (70 : UInt8)] : List UInt8) ((n : Nat) : Int) = some (dg n) ∧ List.take 1 (List.drop n ([(48 : UInt8), (49 : UInt8), (50 : UInt8), (51 : UInt8), (52 : UInt8), (53 : UInt8), (54 : UInt8), (55 : UInt8), (56 : UInt8), (57 : UInt8), (65 : UInt8), (66 : UInt8), (67 : UInt8), (68 : UInt8), (69 : UInt8), (70 : UInt8)] : List UInt8)) = [dg n] := by
  have := List.all_eq_true.1 dig_tab n (List.mem_range.2 h)
  rw [Bool.and_eq_true] at this
  exact ⟨eq_of_beq this.1, eq_of_beq this.2⟩
theorem nib_tab : ((List.range 256).all fun n => iand .u8 ((n : Nat) : Int) 15 == ((n % 16 : Nat) : Int) && (ishr .u8 ((n : Nat) : Int) 4 == ((n / 16 : Nat) : Int) && iquo .u8 ((n : Nat) : Int) 16 == ((n / 16 : Nat) : Int))) = true := by kernel_rfl
theorem nib_at {n : Nat} (h : n < 256) : iand .u8 ((n : Nat) : Int) 15 = ((n % 16 : Nat) : Int) ∧ ishr .u8 ((n : Nat) : Int) 4 = ((n / 16 : Nat) : Int) ∧ iquo .u8 ((n : Nat) : Int) 16 = ((n / 16 : Nat) : Int) := by
  have := List.all_eq_true.1 nib_tab n (List.mem_range.2 h)
  rw [Bool.and_eq_true, Bool.and_eq_true] at this
  exact ⟨eq_of_beq this.1, eq_of_beq this.2.1, eq_of_beq this.2.2⟩
def tN (l : List UInt8) : List Int := l.map fun c => ((c.toNat : Nat) : Int)
theorem tN_len (l : List UInt8) : (tN l).length = l.length := List.length_map ..
theorem tN_back (l : List UInt8) : List.map (fun n : Int => UInt8.ofNat n.toNat) (tN l) = l := by
  unfold tN
  rw [List.map_map]
  have : (fun n : Int => UInt8.ofNat n.toNat) ∘ (fun c : UInt8 => ((c.toNat : Nat) : Int)) = id := by
    funext c; simp
  rw [this, List.map_id]
theorem L42_is {N : Nat} {q : Nat → List Int → Option (List UInt8)} : ∀ (t p : List Nat) (k fuel : Nat), k = (hexS p).length → t.length < fuel → bel 256 t → (p ++ t).length ≤ 100000 →
    L42_0 N q fuel k (nI (p ++ t)) (((p ++ t).length : Nat) : Int) ((p.length : Nat) : Int) (tN (hexS p)) = q (hexS (p ++ t)).length (tN (hexS (p ++ t)))
  | [], p, k, fuel + 1, hk, _, _, _ => by
    rw [L42_0, end_lt, cond_false, List.append_nil, hk]
  | x :: t, p, k, fuel + 1, hk, hf, ht, hn => by
    have hn2 : p.length + t.length + 1 ≤ 100000 := by simpa [Nat.add_assoc] using hn
    have hx : x < 256 := ht x (by simp)
    obtain ⟨n1, n2, n3⟩ := nib_at hx
    have ih := L42_is (N := N) (q := q) t (p ++ [x]) (k + 2) fuel (by rw [hexS_snoc, hk]; simp) (by simpa using hf) (fun z hz => ht z (by simp [hz])) (by simp; omega)
    rw [← snoc_app p t x, hexS_snoc, show ∀ a b : UInt8, tN (hexS p ++ [a, b]) = tN (hexS p) ++ [((a.toNat : Nat) : Int), ((b.toNat : Nat) : Int)] from fun a b => by simp [tN]] at ih
    have hh := hexS_len p
    rw [L42_0, mid_lt, cond_true, geti_mid]
    simp only [n1, n2, (dig_at (show x / 16 < 16 by omega)).1, (dig_at (show x % 16 < 16 by omega)).1]
    rw [tN_len, show ((hexS p).length == k * 1) = true from beq_iff_eq.2 (by omega), decide_eq_true (by omega), decide_eq_true (by omega), Bool.and_self, Bool.and_self, cond_true, inc_mid p x (by omega)]
    exact ih
def h42 (l : List Int) := p42 400 l
theorem E42 : EntOK FT XT 42 (en42 h42) := ok42 fun _ _ h => ⟨400, h⟩
theorem h42_is {l : List Nat} (hl : bel 256 l) (hn : l.length ≤ 300) : h42 (nI l) = some (hexS l) := by
  unfold h42 p42
  have e : imul .i64 2 ((l.length : Nat) : Int) = ((2 * l.length : Nat) : Int) := muln (a := 2) (by omega)
  rw [nI_len, e, decide_eq_true (show (0 : Int) ≤ ((2 * l.length : Nat) : Int) by omega), decide_eq_true (show ((2 * l.length : Nat) : Int) * ((1 : Nat) : Int) ≤ 1099511627776 by omega), decide_eq_true (show ((2 * l.length : Nat) : Int) ≤ 1099511627776 by omega), List.take_zero]
  simp only [Bool.and_self, cond_true]
  refine (L42_is (N := 400) l [] 0 400 rfl (by omega) hl (by simp; omega)).trans ?_
  rw [List.nil_append, Nat.mul_one, Nat.zero_add, tN_len, decide_eq_true (Nat.le_refl _), cond_true, List.drop_zero, List.take_of_length_le (by rw [tN_len]; exact Nat.le_refl _), tN_back]
theorem take_dig {n : Nat} (h : n < 16) : List.take (n + 1 - n) (List.drop n ([(48 : UInt8), (49 : UInt8), (50 : UInt8), (51 : UInt8), (52 : UInt8), (53 : UInt8), (54 : UInt8), (55 : UInt8), (56 : UInt8), (57 : UInt8), (65 : UInt8), (66 : UInt8), (67 : UInt8), (68 : UInt8), (69 : UInt8), (70 : UInt8)] : List UInt8)) = [dg n] := by
  rw [Nat.add_sub_cancel_left]; exact (dig_at h).2
theorem L43_is {N : Nat} : ∀ (t p : List Nat) (fuel : Nat), t.length < fuel → bel 256 t → (p ++ t).length ≤ 100000 →
    L43_0 N (fun (y7 : List UInt8) => some y7) fuel (nI (p ++ t)) ([(48 : UInt8), (49 : UInt8), (50 : UInt8), (51 : UInt8), (52 : UInt8), (53 : UInt8), (54 : UInt8), (55 : UInt8), (56 : UInt8), (57 : UInt8), (65 : UInt8), (66 : UInt8), (67 : UInt8), (68 : UInt8), (69 : UInt8), (70 : UInt8)] : List UInt8) (hexS p) ((p.length : Nat) : Int) = some (hexS (p ++ t))
  | [], p, fuel + 1, _, _, _ => by
    rw [L43_0, nI_len, end_lt, cond_false, List.append_nil]
  | x :: t, p, fuel + 1, hf, ht, hn => by
    have hn2 : p.length + t.length + 1 ≤ 100000 := by simpa [Nat.add_assoc] using hn
    have hx : x < 256 := ht x (by simp)
    obtain ⟨n1, n2, n3⟩ := nib_at hx
    have ih := L43_is (N := N) t (p ++ [x]) fuel (by simpa using hf) (fun z hz => ht z (by simp [hz])) (by simp; omega)
    rw [← snoc_app p t x, hexS_snoc] at ih
    have hh := hexS_len p
    have d16 : ([(48 : UInt8), (49 : UInt8), (50 : UInt8), (51 : UInt8), (52 : UInt8), (53 : UInt8), (54 : UInt8), (55 : UInt8), (56 : UInt8), (57 : UInt8), (65 : UInt8), (66 : UInt8), (67 : UInt8), (68 : UInt8), (69 : UInt8), (70 : UInt8)] : List UInt8).length = 16 := rfl
    have e1 : iadd .i64 ((x / 16 : Nat) : Int) 1 = ((x / 16 + 1 : Nat) : Int) := addn (b := 1) (by omega)
    have e2 : iadd .i64 ((x % 16 : Nat) : Int) 1 = ((x % 16 + 1 : Nat) : Int) := addn (b := 1) (by omega)
    have r16 : irem ((x : Nat) : Int) 16 = ((x % 16 : Nat) : Int) := irem_n x 16
    rw [L43_0, nI_len, mid_lt, cond_true, geti_mid]
    simp only [n3, r16, wrap_i64 (x := ((x / 16 : Nat) : Int)) (by omega) (by omega), wrap_i64 (x := ((x % 16 : Nat) : Int)) (by omega) (by omega), e1, e2, take_dig (show x / 16 < 16 by omega), take_dig (show x % 16 < 16 by omega), d16, Int.toNat_natCast]
    rw [decide_eq_true (show (0 : Int) ≤ ((x / 16 + 1 : Nat) : Int) by omega), decide_eq_true (show ((x / 16 + 1 : Nat) : Int) ≤ ((16 : Nat) : Int) by omega), decide_eq_true (show (0 : Int) ≤ ((x / 16 : Nat) : Int) by omega), decide_eq_true (show ((x / 16 : Nat) : Int) ≤ ((x / 16 + 1 : Nat) : Int) by omega),
      decide_eq_true (show (0 : Int) ≤ ((x % 16 + 1 : Nat) : Int) by omega), decide_eq_true (show ((x % 16 + 1 : Nat) : Int) ≤ ((16 : Nat) : Int) by omega), decide_eq_true (show (0 : Int) ≤ ((x % 16 : Nat) : Int) by omega), decide_eq_true (show ((x % 16 : Nat) : Int) ≤ ((x % 16 + 1 : Nat) : Int) by omega)]
    simp only [Bool.and_self, cond_true, List.length_cons, List.length_nil, List.cons_append, List.nil_append]
    rw [decide_eq_true (by omega), decide_eq_true (by omega), cond_true, cond_true, inc_mid p x (by omega)]
    exact ih
def h43 (l : List Int) := p43 400 l
theorem E43 : EntOK FT XT 43 (en43 h43) := ok43 fun _ _ h => ⟨400, h⟩
theorem h43_is {l : List Nat} (hl : bel 256 l) (hn : l.length ≤ 300) : h43 (nI l) = some (hexS l) :=
  L43_is (N := 400) l [] 400 (by omega) hl (by simp; omega)
/-! ### out of hex -/
def h66 (s : List UInt8) (c : Int) : Option Int := some (firstIdx ⟨s.toArray⟩ c.toNat.toUInt8)
theorem E66 : EntOK FT XT 66 (en66 h66) := ⟨rfl, fun v r h => by
  obtain ⟨s, c, _⟩ := v
  injection h with h
  subst h
  exact ⟨1, rfl⟩⟩
def h65 (s : List UInt8) (c : Int) := p65 h66 0 s c
theorem E65 : EntOK FT XT 65 (en65 h65) := ok65 h66 E66 fun _ _ _ h => ⟨0, h⟩
def h63 (s : List UInt8) (c : Int) := p63 h65 0 s c
theorem E63 : EntOK FT XT 63 (en63 h63) := ok63 h65 E65 fun _ _ _ h => ⟨0, h⟩
def h59 (c : Int) := p59 h63 0 c
theorem E59 : EntOK FT XT 59 (en59 h59) := ok59 h63 E63 fun _ _ h => ⟨0, h⟩
def h60 (c : Int) := p60 0 c
theorem E60 : EntOK FT XT 60 (en60 h60) := ok60 fun _ _ h => ⟨0, h⟩
/-- a digit's worth; sixteen is none -/
def nb (c : UInt8) : Nat := ((h60 ((c.toNat : Nat) : Int)).getD 99).toNat
def nbI (n : Nat) : Int := if n = 16 then -1 else (n : Int)
theorem nb_tab : ((List.range 256).all fun n => h60 ((n : Nat) : Int) == some ((nb (UInt8.ofNat n) : Nat) : Int) && (h59 ((n : Nat) : Int) == some (nbI (nb (UInt8.ofNat n))) && decide (nb (UInt8.ofNat n) ≤ 16))) = true := by kernel_rfl
theorem nb_at (c : UInt8) : h60 ((c.toNat : Nat) : Int) = some ((nb c : Nat) : Int) ∧ h59 ((c.toNat : Nat) : Int) = some (nbI (nb c)) ∧ nb c ≤ 16 := by
  have := List.all_eq_true.1 nb_tab c.toNat (List.mem_range.2 c.toNat_lt)
  rw [UInt8.ofNat_toNat, Bool.and_eq_true, Bool.and_eq_true] at this
  exact ⟨eq_of_beq this.1, eq_of_beq this.2.1, of_decide_eq_true this.2.2⟩
def two (a b : Nat) : Int := ior .i64 (ishl .i64 (nbI a) 4) (nbI b)
theorem two_tab : ((List.range 17).all fun a => (List.range 17).all fun b => (decide (two a b < 0) == !(decide (a ≤ 15) && decide (b ≤ 15))) && (!(decide (a ≤ 15) && decide (b ≤ 15)) || (IntKind.wrap .u8 (two a b) == ((16 * a + b : Nat) : Int) && iadd .u8 (imul .u8 16 ((a : Nat) : Int)) ((b : Nat) : Int) == ((16 * a + b : Nat) : Int)))) = true := by kernel_rfl
theorem two_at {a b : Nat} (ha : a ≤ 16) (hb : b ≤ 16) : (decide (two a b < 0) = !(decide (a ≤ 15) && decide (b ≤ 15))) ∧ (a ≤ 15 → b ≤ 15 → IntKind.wrap .u8 (two a b) = ((16 * a + b : Nat) : Int) ∧ iadd .u8 (imul .u8 16 ((a : Nat) : Int)) ((b : Nat) : Int) = ((16 * a + b : Nat) : Int)) := by
  have := List.all_eq_true.1 two_tab a (List.mem_range.2 (by omega))
  have := List.all_eq_true.1 this b (List.mem_range.2 (by omega))
  rw [Bool.and_eq_true] at this
  refine ⟨eq_of_beq this.1, fun h1 h2 => ?_⟩
  have h3 := this.2
  rw [decide_eq_true h1, decide_eq_true h2] at h3
  simp only [Bool.and_self, Bool.not_true, Bool.false_or, Bool.and_eq_true] at h3
  exact ⟨eq_of_beq h3.1, eq_of_beq h3.2⟩
def unh : List UInt8 → Option (List Nat)
  | a :: b :: t => if nb a ≤ 15 ∧ nb b ≤ 15 then (unh t).map fun l => (16 * nb a + nb b) :: l else none
  | _ => some []
def unS (s : List UInt8) : List Nat × Nat := if s.length % 2 = 0 then (match unh s with | some l => (l, 0) | none => ([], 3)) else ([], 3)
def unA (acc : List Nat) (s : List UInt8) : List Nat × Nat := match unh s with | some l => (acc ++ l, 0) | none => ([], 3)
theorem unA_ok {acc : List Nat} {a b : UInt8} {t : List UInt8} (h : nb a ≤ 15 ∧ nb b ≤ 15) : unA acc (a :: b :: t) = unA (acc ++ [16 * nb a + nb b]) t := by
  unfold unA
  rw [show unh (a :: b :: t) = (unh t).map fun l => (16 * nb a + nb b) :: l from if_pos h]
  cases unh t with
  | none => rfl
  | some l => simp
theorem unA_bad {acc : List Nat} {a b : UInt8} {t : List UInt8} (h : ¬ (nb a ≤ 15 ∧ nb b ≤ 15)) : unA acc (a :: b :: t) = ([], 3) := by
  unfold unA
  rw [show unh (a :: b :: t) = none from if_neg h]
theorem L40_is {N : Nat} : ∀ (fuel : Nat) (s : List UInt8) (acc : List Nat), s.length % 2 = 0 → s.length / 2 < fuel → acc.length + s.length ≤ 100000 → L40_0 h59 N fuel s acc.length (nI acc) = some (enB (unA acc s))
  | 0, _, _, _, h, _ => by omega
  | fuel + 1, [], acc, _, _, _ => by
    rw [L40_0, show (([] : List UInt8) == []) = true from rfl, cond_true, nI_len, decide_eq_true (by omega), cond_true, List.drop_zero, List.take_of_length_le (by rw [nI_len]; exact Nat.le_refl _)]
    simp only [unA, unh, List.append_nil, enB]; rfl
  | fuel + 1, [a], acc, h, _, _ => by simp at h
  | fuel + 1, a :: b :: t, acc, h, hf, hl => by
    obtain ⟨a1, a2, a3⟩ := nb_at a
    obtain ⟨b1, b2, b3⟩ := nb_at b
    obtain ⟨t1, t2⟩ := two_at a3 b3
    simp only [List.length_cons] at h hf hl
    have ih := L40_is (N := N) fuel t (acc ++ [16 * nb a + nb b]) (by omega) (by omega) (by rw [snoc_len]; omega)
    rw [L40_0, show (a :: b :: t == ([] : List UInt8)) = false from rfl, cond_false, show geti (a :: b :: t) 0 = some a from rfl, show geti (a :: b :: t) 1 = some b from rfl]
    simp only [a2, b2]
    rw [show ior .i64 (ishl .i64 (nbI (nb a)) 4) (nbI (nb b)) = two (nb a) (nb b) from rfl, t1]
    by_cases g : nb a ≤ 15 ∧ nb b ≤ 15
    · rw [decide_eq_true g.1, decide_eq_true g.2, Bool.and_self, Bool.not_true, cond_false, (t2 g.1 g.2).1, nI_len, show (acc.length == acc.length * 1) = true from beq_iff_eq.2 (by omega), decide_eq_true (by omega), decide_eq_true (by omega), Bool.and_self, Bool.and_self, cond_true, List.length_cons, List.length_cons, decide_eq_true (by omega), cond_true, unA_ok g, ← ih]
      rw [snoc_len, show nI acc ++ [((16 * nb a + nb b : Nat) : Int)] = nI (acc ++ [16 * nb a + nb b]) by simp [nI]]
      simp only [List.drop_succ_cons, List.drop_zero]
      rw [List.take_of_length_le (by omega)]
    · rw [show (decide (nb a ≤ 15) && decide (nb b ≤ 15)) = false from by rw [Bool.and_eq_false_iff, decide_eq_false_iff_not, decide_eq_false_iff_not]; omega, Bool.not_false, cond_true, unA_bad g]; rfl
def h40 (s : List UInt8) := p40 h59 400 s
theorem E40 : EntOK FT XT 40 (en40 h40) := ok40 h59 E59 fun _ _ h => ⟨400, h⟩
theorem h40_is {s : List UInt8} (hl : s.length ≤ 600) : h40 s = some (enB (unS s)) := by
  unfold h40 p40 unS
  rw [show irem ((s.length : Nat) : Int) 2 = ((s.length % 2 : Nat) : Int) from irem_n s.length 2]
  by_cases h : s.length % 2 = 0
  · rw [if_pos h, h, show (((0 : Nat) : Int) != 0) = false from rfl, cond_false]
    match s, h, hl with
    | [], _, _ => rfl
    | [a], h, _ => simp at h
    | a :: b :: t, h, hl =>
      obtain ⟨a1, a2, a3⟩ := nb_at a
      obtain ⟨b1, b2, b3⟩ := nb_at b
      obtain ⟨t1, t2⟩ := two_at a3 b3
      simp only [List.length_cons] at h hl
      show _ = some (enB (unA [] (a :: b :: t)))
      rw [show (a :: b :: t == ([] : List UInt8)) = false from rfl, cond_false, show geti (a :: b :: t) 0 = some a from rfl, show geti (a :: b :: t) 1 = some b from rfl]
      simp only [a2, b2]
      rw [show ior .i64 (ishl .i64 (nbI (nb a)) 4) (nbI (nb b)) = two (nb a) (nb b) from rfl, t1]
      by_cases g : nb a ≤ 15 ∧ nb b ≤ 15
      · rw [decide_eq_true g.1, decide_eq_true g.2, Bool.and_self, Bool.not_true, cond_false, (t2 g.1 g.2).1, List.length_cons, List.length_cons, decide_eq_true (by omega), cond_true, unA_ok g]
        simp only [List.drop_succ_cons, List.drop_zero]
        rw [List.take_of_length_le (by omega)]
        exact L40_is 400 t [16 * nb a + nb b] (by omega) (by omega) (by simp; omega)
      · rw [show (decide (nb a ≤ 15) && decide (nb b ≤ 15)) = false from by rw [Bool.and_eq_false_iff, decide_eq_false_iff_not, decide_eq_false_iff_not]; omega, Bool.not_false, cond_true, unA_bad g]; rfl
  · rw [if_neg h, bne_iff_ne.2 (by omega), cond_true]; rfl
theorem geti_s (p t : List UInt8) (x : UInt8) : geti (p ++ x :: t) ((p.length : Nat) : Int) = some x := by
  rw [geti_nat, List.getElem?_append_right (Nat.le_refl _), Nat.sub_self]; rfl
theorem L41_is {N : Nat} {q : Nat → List Int → Option ((List Int) × Int)} (hq : ∀ acc : List Nat, q acc.length (nI acc) = some (nI acc, 0)) : ∀ (fuel : Nat) (s p : List UInt8) (acc : List Nat), s.length % 2 = 0 → s.length / 2 < fuel → acc.length + p.length + 2 * s.length ≤ 100000 → L41_0 h60 N q fuel (p ++ s) acc.length ((p.length : Nat) : Int) (nI acc) = some (enB (unA acc s))
  | 0, _, _, _, _, h, _ => by omega
  | fuel + 1, [], p, acc, _, _, _ => by
    rw [L41_0, show decide (((p.length : Nat) : Int) < (((p ++ ([] : List UInt8)).length : Nat) : Int)) = false by simp, cond_false, hq]
    simp only [unA, unh, List.append_nil, enB]; rfl
  | fuel + 1, [a], p, acc, h, _, _ => by simp at h
  | fuel + 1, a :: b :: t, p, acc, h, hf, hl => by
    obtain ⟨a1, a2, a3⟩ := nb_at a
    obtain ⟨b1, b2, b3⟩ := nb_at b
    obtain ⟨t1, t2⟩ := two_at a3 b3
    simp only [List.length_cons] at h hf hl
    have ih := L41_is (N := N) hq fuel t (p ++ [a, b]) (acc ++ [16 * nb a + nb b]) (by omega) (by omega) (by rw [snoc_len]; simp; omega)
    have e1 : iadd .i64 ((p.length : Nat) : Int) 1 = (((p ++ [a]).length : Nat) : Int) := by rw [show (p ++ [a]).length = p.length + 1 by simp]; exact addn (b := 1) (by omega)
    have e2 : iadd .i64 ((p.length : Nat) : Int) 2 = (((p ++ [a, b]).length : Nat) : Int) := by rw [show (p ++ [a, b]).length = p.length + 2 by simp]; exact addn (b := 2) (by omega)
    have e3 : geti (p ++ a :: b :: t) (((p ++ [a]).length : Nat) : Int) = some b := by
      rw [show p ++ a :: b :: t = (p ++ [a]) ++ b :: t by simp]; exact geti_s _ _ _
    rw [L41_0, show decide (((p.length : Nat) : Int) < (((p ++ a :: b :: t).length : Nat) : Int)) = true from decide_eq_true (by simp; omega), cond_true, geti_s]
    simp only [a1, b1, e1, e3, e2]
    by_cases g : nb a ≤ 15 ∧ nb b ≤ 15
    · rw [decide_eq_false (by omega), decide_eq_false (by omega), cond_false, cond_false, (t2 g.1 g.2).2, nI_len, show (acc.length == acc.length * 1) = true from beq_iff_eq.2 (by omega), decide_eq_true (by omega), decide_eq_true (by omega), Bool.and_self, Bool.and_self, cond_true, unA_ok g, ← ih]
      rw [snoc_len, show nI acc ++ [((16 * nb a + nb b : Nat) : Int)] = nI (acc ++ [16 * nb a + nb b]) by simp [nI], show p ++ a :: b :: t = p ++ [a, b] ++ t by simp]
    · rw [unA_bad g]
      by_cases g1 : nb a ≤ 15
      · rw [decide_eq_false (by omega), decide_eq_true (by omega)]; rfl
      · rw [decide_eq_true (by omega)]; rfl
def h41 (s : List UInt8) := p41 h60 400 s
theorem E41 : EntOK FT XT 41 (en41 h41) := ok41 h60 E60 fun _ _ h => ⟨400, h⟩
theorem h41_is {s : List UInt8} (hl : s.length ≤ 600) : h41 s = some (enB (unS s)) := by
  unfold h41 p41 unS
  rw [show irem ((s.length : Nat) : Int) 2 = ((s.length % 2 : Nat) : Int) from irem_n s.length 2]
  by_cases h : s.length % 2 = 0
  · rw [if_pos h, h, show (((0 : Nat) : Int) != 0) = false from rfl, cond_false]
    exact L41_is (N := 400) (fun acc => by rw [nI_len, decide_eq_true (by omega), cond_true, List.drop_zero, List.take_of_length_le (by rw [nI_len]; exact Nat.le_refl _)]) 400 s [] [] h (by omega) (by simp; omega)
  · rw [if_neg h, bne_iff_ne.2 (by omega), cond_true]; rfl
theorem nbdg_tab : ((List.range 16).all fun n => nb (dg n) == n) = true := by kernel_rfl
theorem nb_dg {n : Nat} (h : n < 16) : nb (dg n) = n := eq_of_beq (List.all_eq_true.1 nbdg_tab n (List.mem_range.2 h))
theorem unh_hex : ∀ l : List Nat, bel 256 l → unh (hexS l) = some l
  | [], _ => rfl
  | x :: t, h => by
    have hx : x < 256 := h x (by simp)
    have ih := unh_hex t (fun z hz => h z (by simp [hz]))
    show unh (dg (x / 16) :: dg (x % 16) :: hexS t) = _
    rw [unh, nb_dg (show x / 16 < 16 by omega), nb_dg (show x % 16 < 16 by omega), if_pos (by omega), ih, Option.map_some]
    congr 2; omega
theorem unS_hex {l : List Nat} (h : bel 256 l) : unS (hexS l) = (l, 0) := by
  unfold unS
  rw [if_pos (by rw [hexS_len]; omega), unh_hex l h]
theorem unh_len : ∀ (s : List UInt8) (l : List Nat), unh s = some l → l.length ≤ s.length
  | [], l, h => by injection h with h; subst h; exact Nat.zero_le _
  | [_], l, h => by injection h with h; subst h; exact Nat.zero_le _
  | a :: b :: t, l, h => by
    unfold unh at h
    split at h <;> try (cases h; done)
    cases hu : unh t with
    | none => rw [hu] at h; cases h
    | some m =>
      rw [hu] at h
      injection h with h; subst h
      have := unh_len t m hu
      simp only [List.length_cons]; omega
theorem unS_len (s : List UInt8) : (unS s).1.length ≤ s.length := by
  unfold unS
  split
  · cases h : unh s with
    | none => exact Nat.zero_le _
    | some l => exact unh_len s l h
  · exact Nat.zero_le _
end Go.Proofs.YtjkdflcccoeggaaE
