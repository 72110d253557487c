/- Chapter 20: frames. -/
import Derived.Test.YtjkdflcccoeggaaEvBa
namespace Go.Proofs.YtjkdflcccoeggaaE
open Go
set_option linter.unusedSimpArgs false
set_option linter.unusedVariables false
/-! ### helpers -/
theorem nbeq (a b : Nat) : (((a : Nat) : Int) == ((b : Nat) : Int)) = (a == b) := by
  rw [Bool.eq_iff_iff, beq_iff_eq, beq_iff_eq]; omega
theorem nI_cons (x : Nat) (l : List Nat) : nI (x :: l) = ((x : Nat) : Int) :: nI l := rfl
theorem nI_nil : nI [] = [] := rfl
theorem geti_c0 {β : Type} (a : β) (l : List β) : geti (a :: l) 0 = some a := rfl
theorem geti_c1 {β : Type} (a b : β) (l : List β) : geti (a :: b :: l) 1 = some b := rfl
theorem geti_c2 {β : Type} (a b c : β) (l : List β) : geti (a :: b :: c :: l) 2 = some c := rfl
theorem geti_c3 {β : Type} (a b c d : β) (l : List β) : geti (a :: b :: c :: d :: l) 3 = some d := rfl
theorem tk0 {β : Type} (l : List β) {n : Nat} (h : l.length ≤ n) : List.take n (List.drop 0 l) = l := by rw [List.drop_zero, List.take_of_length_le h]
theorem and16 {p k : Nat} (h : p < 65536) (hk : k < 65536) : iand .u16 (p : Int) (k : Int) = ((p &&& k : Nat) : Int) := iand_u .u16 rfl p k h hk
theorem and1_16 {p : Nat} (h : p < 65536) : iand .u16 (p : Int) 1 = ((p % 2 : Nat) : Int) := by
  rw [show (1 : Int) = ((1 : Nat) : Int) from rfl, and16 h (by omega), Nat.and_one_is_mod]
theorem shr8_16 (p : Nat) : ishr .u16 (p : Int) 8 = ((p / 256 : Nat) : Int) := ishr_u .u16 p 8 (by decide)
theorem quo16 {a b : Nat} (h : a < 65536) : iquo .u16 (a : Int) (b : Int) = ((a / b : Nat) : Int) := by
  unfold iquo
  rw [Int.tdiv_eq_ediv_of_nonneg (by omega), show (a : Int) / (b : Int) = ((a / b : Nat) : Int) by norm_cast]
  exact wrap_u .u16 rfl (by exact_mod_cast Nat.zero_le _) (by
    have := Nat.div_le_self a b
    have h2 : a / b < 65536 := by omega
    exact_mod_cast h2)
theorem quo256 {a : Nat} (h : a < 65536) : iquo .u16 (a : Int) 256 = ((a / 256 : Nat) : Int) := quo16 (b := 256) h
theorem rem256 (a : Nat) : irem (a : Int) 256 = ((a % 256 : Nat) : Int) := irem_n a 256
theorem rem2 (a : Nat) : irem (a : Int) 2 = ((a % 2 : Nat) : Int) := irem_n a 2
theorem w16 (a : Nat) : IntKind.u16.wrap (a : Int) = ((a % 65536 : Nat) : Int) := by rw [wrap_u16]; norm_cast
theorem and1_8 {p : Nat} (h : p < 256) : iand .u8 (p : Int) 1 = ((p % 2 : Nat) : Int) := by
  rw [show (1 : Int) = ((1 : Nat) : Int) from rfl, iand_u .u8 rfl p 1 h (by decide), Nat.and_one_is_mod]
/-! ### compared -/
def h160 (a b : List Int) := p160 0 a b
theorem E160 : EntOK FT XT 160 (en160 h160) := ok160 fun _ _ _ h => ⟨0, h⟩
theorem u8_inj {a b : List Nat} (ha : bel 256 a) (hb : bel 256 b) (h : a.map (fun n : Nat => UInt8.ofNat n) = b.map (fun n : Nat => UInt8.ofNat n)) : a = b := by
  have back : ∀ l : List Nat, bel 256 l → (l.map (fun n : Nat => UInt8.ofNat n)).map (fun u : UInt8 => u.toNat) = l := fun l hl => by
    rw [List.map_map]
    refine (List.map_congr_left (g := id) (fun x hx => ?_)).trans (List.map_id l)
    have := hl x hx
    simp [UInt8.toNat_ofNat', Nat.mod_eq_of_lt this]
  rw [← back a ha, ← back b hb, h]
theorem nI_u8 (a : List Nat) : List.map (fun n : Int => UInt8.ofNat n.toNat) (nI a) = a.map (fun n : Nat => UInt8.ofNat n) := by
  unfold nI
  rw [List.map_map]
  rfl
theorem h160_is {a b : List Nat} (ha : bel 256 a) (hb : bel 256 b) : h160 (nI a) (nI b) = some (a == b) := by
  unfold h160 p160
  rw [nI_u8, nI_u8]
  congr 1
  by_cases h : a = b
  · subst h; rw [beq_self_eq_true, beq_self_eq_true]
  · rw [beq_eq_false_iff_ne.2 h, beq_eq_false_iff_ne.2 (fun g => h (u8_inj ha hb g))]
def h164 (a b : List Int) := p164 h160 0 a b
theorem E164 : EntOK FT XT 164 (en164 h164) := ok164 h160 E160 fun _ _ _ h => ⟨0, h⟩
theorem h164_is {a b : List Nat} (ha : bel 256 a) (hb : bel 256 b) : h164 (nI a) (nI b) = some (decide (b.length ≤ a.length) && (a.take b.length == b)) := by
  unfold h164 p164
  simp only [nI_len, Bool.cond_eq_ite, decide_eq_true_eq, Bool.and_eq_true, Int.toNat_natCast, nI_take]
  rw [h160_is (bel_take ha) hb]
  by_cases h : b.length ≤ a.length
  · rw [if_pos (by omega), if_pos (by omega), decide_eq_true h]; rfl
  · rw [if_neg (by omega), decide_eq_false h]; rfl
def h159 (a b : List Int) := p159 h164 0 a b
theorem E159 : EntOK FT XT 159 (en159 h159) := ok159 h164 E164 fun _ _ _ h => ⟨0, h⟩
theorem E108 : EntOK FT XT 108 (en108 f108) := ⟨rfl, fun v r h => clone_ans (g := 108) rfl (fun _ => rfl) h⟩
/-! ### protocols -/
def may20 (p : Nat) : Bool := p % 2 == 1 && (p / 256 % 2 == 0 && p != 255)
def h132 (p : Int) := p132 0 p
theorem E132 : EntOK FT XT 132 (en132 h132) := ok132 fun _ _ h => ⟨0, h⟩
theorem nbeq1 (a : Nat) : (((a : Nat) : Int) == 1) = (a == 1) := nbeq a 1
theorem nbeq0 (a : Nat) : (((a : Nat) : Int) == 0) = (a == 0) := nbeq a 0
theorem nbne255 (a : Nat) : (((a : Nat) : Int) != 255) = (a != 255) := by
  have := nbeq a 255
  unfold bne
  rw [← this]; rfl
theorem h132_is {p : Nat} (h : p < 65536) : h132 (p : Int) = some (may20 p) := by
  unfold h132 p132 may20
  rw [and1_16 h, shr8_16, and1_16 (by omega), nbeq1, nbeq0, nbne255]
  cases (p % 2 == 1) <;> cases (p / 256 % 2 == 0) <;> rfl
def h133 (p : Int) := p133 0 p
theorem E133 : EntOK FT XT 133 (en133 h133) := ok133 fun _ _ h => ⟨0, h⟩
theorem h133_is {p : Nat} (h : p < 65536) : h133 (p : Int) = some (may20 p) := by
  unfold h133 p133 may20
  rw [rem2, quo256 h, rem2, nbeq1, nbeq0, nbne255]
  cases (p % 2 == 1) <;> cases (p / 256 % 2 == 0) <;> rfl
def h134 (p : Int) := p134 0 p
theorem E134 : EntOK FT XT 134 (en134 h134) := ok134 fun _ _ h => ⟨0, h⟩
theorem h134_is (p : Int) : h134 p = some ((p == 33) || ((p == 32801) || ((p == 49185) || (p == 49699)))) := by
  unfold h134 p134
  by_cases h1 : p = 33
  · subst h1; rfl
  · by_cases h2 : p = 32801
    · subst h2; rfl
    · rw [beq_eq_false_iff_ne.2 h1, beq_eq_false_iff_ne.2 h2]
      cases (p == 49185) <;> cases (p == 49699) <;> rfl
def h135 (a b : Int × List Int) := p135 h160 0 a b
theorem E135 : EntOK FT XT 135 (en135 h135) := ok135 h160 E160 fun _ _ _ h => ⟨0, h⟩
theorem h135_is {p q : Nat} {a b : List Nat} (ha : bel 256 a) (hb : bel 256 b) : h135 ((p : Int), nI a) ((q : Int), nI b) = some (p == q && a == b) := by
  unfold h135 p135
  simp only [h160_is ha hb, nbeq]
  cases (p == q) <;> rfl
def h137 (a b : Int × List Int) := p137 f23 0 a b
theorem E137 : EntOK FT XT 137 (en137 h137) := ok137 f23 E23 fun _ _ _ h => ⟨0, h⟩
theorem nI_beq (a b : List Nat) : (nI a == nI b) = (a == b) := by
  by_cases h : a = b
  · rw [h, beq_self_eq_true, beq_self_eq_true]
  · rw [beq_eq_false_iff_ne.2 h, beq_eq_false_iff_ne.2 (fun hh => h (nI_inj hh))]
theorem f23_is {a b : List Nat} (h : a.length < 1099511627776) : f23 (nI a) (nI b) = some (a == b) := by
  unfold f23
  rw [if_pos (by rw [nI_len]; exact h), nI_beq]
theorem h137_is {p q : Nat} {a b : List Nat} (ha : a.length < 1099511627776) : h137 ((p : Int), nI a) ((q : Int), nI b) = some (p == q && a == b) := by
  unfold h137 p137
  simp only [f23_is ha, nbeq]
  cases (p == q) <;> rfl
def h129 (a : Int × List Int) := p129 0 a
theorem E129 : EntOK FT XT 129 (en129 h129) := ok129 fun _ _ h => ⟨0, h⟩
theorem h129_is (a : Int × List Int) : h129 a = some a := rfl
/-! ### laid -/
def lay20 (p : Nat) (d : List Nat) (bare short : Bool) : List Nat × Nat :=
  if may20 p = false then ([], 3) else if 4000 < d.length then ([], 8) else
    ((if bare = true then [] else [255, 3]) ++ ((if short = true ∧ p ≤ 255 then [p] else [p / 256, p % 256]) ++ d), 0)
def enR (x : List Nat × Nat) : List Int × Int := (nI x.1, ((x.2 : Nat) : Int))
def h128 (a : Int × List Int) (b c : Bool) := p128 h132 h19 f1 0 a b c
theorem E46' : EntOK FT XT 46 (en46 f1) := E46
theorem E128 : EntOK FT XT 128 (en128 h128) := ok128 h132 h19 f1 E132 E19 E46 fun _ _ _ _ h => ⟨0, h⟩
theorem join3 {a b c : List Nat} (h : a.length + (b.length + c.length) ≤ 1099511627776) : f1 [nI a, nI b, nI c] = some (nI (a ++ (b ++ c))) := by
  rw [f1_is (by simp) (by simp [nI_len]; omega)]
  simp [← nI_app]
theorem h128_is {p : Nat} {d : List Nat} (hp : p < 65536) (hd : d.length ≤ 100000) (bare short : Bool) : h128 ((p : Int), nI d) bare short = some (enR (lay20 p d bare short)) := by
  unfold h128 p128 lay20
  simp only [h132_is hp, nI_len, Bool.cond_eq_ite, decide_eq_true_eq, Bool.not_eq_true', w64 (show p < 2 ^ 64 by omega), put_be1, put_be2]
  by_cases hm : may20 p = false
  · rw [if_pos hm, if_pos hm]; rfl
  rw [if_neg hm, if_neg hm]
  by_cases h4 : 4000 < d.length
  · rw [if_pos (by omega), if_pos h4]; rfl
  rw [if_neg (by omega), if_neg h4]
  have j1 : ∀ a b : List Nat, a.length ≤ 10 → b.length ≤ 10 → f1 [nI a, nI b, nI d] = some (nI (a ++ (b ++ d))) := fun a b ha hb => join3 (by omega)
  by_cases h5 : p ≤ 255
  · rw [Nat.mod_eq_of_lt (show p < 256 by omega)]
    have e : be2 p = [p / 256, p] := by unfold be2; rw [Nat.mod_eq_of_lt (show p / 256 < 256 by omega), Nat.mod_eq_of_lt (show p < 256 by omega)]
    rw [e]
    have k1 : f1 [[255, 3], nI [p], nI d] = some (nI ([255, 3] ++ ([p] ++ d))) := j1 [255, 3] [p] (by decide) (by simp)
    have k2 : f1 [[255, 3], nI [p / 256, p], nI d] = some (nI ([255, 3] ++ ([p / 256, p] ++ d))) := j1 [255, 3] [p / 256, p] (by decide) (by simp)
    have k3 : f1 [[], nI [p], nI d] = some (nI ([] ++ ([p] ++ d))) := j1 [] [p] (by decide) (by simp)
    have k4 : f1 [[], nI [p / 256, p], nI d] = some (nI ([] ++ ([p / 256, p] ++ d))) := j1 [] [p / 256, p] (by decide) (by simp)
    cases bare <;> cases short <;> simp only [k1, k2, k3, k4, h5, show ((p : Int) ≤ 255) by omega, Bool.false_eq_true, Bool.true_eq_false, if_false, if_true, and_true, and_false, false_and, true_and, tk0 _ (Nat.le_refl _), Nat.zero_add, Nat.mul_one, Nat.le_refl, and_self] <;> rfl
  · have e : be2 p = [p / 256, p % 256] := by unfold be2; rw [Nat.mod_eq_of_lt (show p / 256 < 256 by omega)]
    rw [e]
    have k2 : f1 [[255, 3], nI [p / 256, p % 256], nI d] = some (nI ([255, 3] ++ ([p / 256, p % 256] ++ d))) := j1 [255, 3] [p / 256, p % 256] (by decide) (by simp)
    have k4 : f1 [[], nI [p / 256, p % 256], nI d] = some (nI ([] ++ ([p / 256, p % 256] ++ d))) := j1 [] [p / 256, p % 256] (by decide) (by simp)
    cases bare <;> cases short <;> simp only [k2, k4, h5, show ¬ ((p : Int) ≤ 255) by omega, Bool.false_eq_true, Bool.true_eq_false, if_false, if_true, and_true, and_false, false_and, true_and, tk0 _ (Nat.le_refl _), Nat.zero_add, Nat.mul_one, Nat.le_refl, and_self] <;> rfl
def h130 (a : Int × List Int) (b c : Bool) := p130 h133 0 a b c
theorem E130 : EntOK FT XT 130 (en130 h130) := ok130 h133 E133 fun _ _ _ _ h => ⟨0, h⟩
theorem h130_is {p : Nat} {d : List Nat} (hp : p < 65536) (hd : d.length ≤ 100000) (bare short : Bool) : h130 ((p : Int), nI d) bare short = some (enR (lay20 p d bare short)) := by
  unfold h130 p130 lay20
  simp only [h133_is hp, nI_len, Bool.cond_eq_ite, decide_eq_true_eq, Bool.not_eq_true', quo256 hp, rem256, w8, Bool.and_eq_true]
  by_cases hm : may20 p = false
  · rw [if_pos hm, if_pos hm]; rfl
  rw [if_neg hm, if_neg hm]
  by_cases h4 : 4000 < d.length
  · rw [if_pos (by omega), if_pos h4]; rfl
  rw [if_neg (by omega), if_neg h4]
  have a1 : p / 256 % 256 = p / 256 := Nat.mod_eq_of_lt (by omega)
  have a2 : p % 256 % 256 = p % 256 := Nat.mod_mod _ _
  rw [a1, a2]
  have lim : ∀ k, k ≤ 4 → ((k + d.length) * 1 ≤ 1099511627776 ∧ k + d.length ≤ 1099511627776) := fun k hk => by omega
  have row : ∀ (k : Nat) (a : List Nat), a.length = k → List.length (nI a ++ nI d) = k + d.length ∧ List.take (k + d.length) (List.drop 0 (nI a ++ nI d)) = nI (a ++ d) := fun k a ha => by
    have : List.length (nI a ++ nI d) = k + d.length := by rw [List.length_append, nI_len, nI_len, ha]
    exact ⟨this, by rw [tk0 _ (by omega), nI_app]⟩
  have r4 := row 4 [255, 3, p / 256, p % 256] rfl
  have r3 := row 3 [255, 3, p % 256] rfl
  have r2 := row 2 [p / 256, p % 256] rfl
  have r1 := row 1 [p % 256] rfl
  by_cases h5 : p ≤ 255
  · have h5' : ¬ ((p : Int) > 255) := by omega
    have a3 : p % 256 = p := Nat.mod_eq_of_lt (by omega)
    cases bare <;> cases short <;> simp only [h5, h5', Bool.false_eq_true, Bool.true_eq_false, if_false, if_true, and_true, and_false, false_and, true_and, lim 4 (by omega), lim 3 (by omega), lim 2 (by omega), lim 1 (by omega), and_self]
    · rw [show ([255, 3, ((p / 256 : Nat) : Int), ((p % 256 : Nat) : Int)] : List Int) = nI [255, 3, p / 256, p % 256] from rfl, r4.1, r4.2, if_pos (by omega)]; rfl
    · rw [show ([255, 3, ((p % 256 : Nat) : Int)] : List Int) = nI [255, 3, p % 256] from rfl, r3.1, r3.2, if_pos (by omega), a3]; rfl
    · rw [show ([((p / 256 : Nat) : Int), ((p % 256 : Nat) : Int)] : List Int) = nI [p / 256, p % 256] from rfl, r2.1, r2.2, if_pos (by omega)]; rfl
    · rw [show ([((p % 256 : Nat) : Int)] : List Int) = nI [p % 256] from rfl, r1.1, r1.2, if_pos (by omega), a3]; rfl
  · have h5' : ((p : Int) > 255) := by omega
    cases bare <;> cases short <;> simp only [h5, h5', Bool.false_eq_true, Bool.true_eq_false, if_false, if_true, and_true, and_false, false_and, true_and, lim 4 (by omega), lim 3 (by omega), lim 2 (by omega), lim 1 (by omega), and_self]
    · rw [show ([255, 3, ((p / 256 : Nat) : Int), ((p % 256 : Nat) : Int)] : List Int) = nI [255, 3, p / 256, p % 256] from rfl, r4.1, r4.2, if_pos (by omega)]; rfl
    · rw [show ([255, 3, ((p / 256 : Nat) : Int), ((p % 256 : Nat) : Int)] : List Int) = nI [255, 3, p / 256, p % 256] from rfl, r4.1, r4.2, if_pos (by omega)]; rfl
    · rw [show ([((p / 256 : Nat) : Int), ((p % 256 : Nat) : Int)] : List Int) = nI [p / 256, p % 256] from rfl, r2.1, r2.2, if_pos (by omega)]; rfl
    · rw [show ([((p / 256 : Nat) : Int), ((p % 256 : Nat) : Int)] : List Int) = nI [p / 256, p % 256] from rfl, r2.1, r2.2, if_pos (by omega)]; rfl
/-! ### parsed -/
def fin20 (p : Nat) (d : List Nat) : (Nat × List Nat) × Nat := if may20 p = false then ((0, []), 3) else if 4000 < d.length then ((0, []), 8) else ((p, d), 0)
def pt20 : List Nat → (Nat × List Nat) × Nat
  | [] => ((0, []), 4)
  | x :: r => if x % 2 = 1 then fin20 x r else match r with | [] => ((0, []), 4) | y :: r => fin20 (256 * x + y) r
def trim20 (b : List Nat) : List Nat := if b.take 2 = [255, 3] then b.drop 2 else b
def enF (x : (Nat × List Nat) × Nat) : (Int × List Int) × Int := ((((x.1.1 : Nat) : Int), nI x.1.2), ((x.2 : Nat) : Int))
theorem trim20_len (b : List Nat) : (trim20 b).length ≤ b.length := by unfold trim20; split <;> simp
theorem trim20_bel {b : List Nat} (h : bel 256 b) : bel 256 (trim20 b) := by
  unfold trim20
  split
  · exact bel_drop h
  · exact h
theorem h159_is {b : List Nat} (hb : bel 256 b) : h159 (nI b) [255, 3] = some (nI (trim20 b)) := by
  unfold h159 p159
  rw [show ([255, 3] : List Int) = nI [255, 3] from rfl, h164_is hb (fun x hx => by simp at hx; omega)]
  unfold trim20
  simp only [nI_len, Bool.cond_eq_ite, decide_eq_true_eq, Bool.and_eq_true, beq_iff_eq, Int.toNat_natCast, nI_drop, show [255, 3].length = 2 from rfl]
  by_cases h : b.take 2 = [255, 3]
  · have : 2 ≤ b.length := by
      have := congrArg List.length h
      simp at this; omega
    rw [if_pos ⟨this, h⟩, if_pos h, if_pos (by omega)]
  · rw [if_neg (fun g => h g.2), if_neg h]
def h131 (b : List Int) := p131 h159 h21 h132 f108 0 b
theorem E131 : EntOK FT XT 131 (en131 h131) := ok131 h159 h21 h132 f108 E159 E21 E132 E108 fun _ _ h => ⟨0, h⟩
theorem f108_nI {l : List Nat} (h : l.length ≤ 100000) : f108 (nI l) = some (nI l) := f108_is (by rw [nI_len]; omega)
theorem h131_is {b : List Nat} (hb : bel 256 b) (hl : b.length ≤ 100000) : h131 (nI b) = some (enF (pt20 (trim20 b))) := by
  unfold h131 p131
  rw [h159_is hb]
  have hb' := trim20_bel hb
  have hl' := trim20_len b
  generalize trim20 b = l at *
  simp only [nI_len, Bool.cond_eq_ite, decide_eq_true_eq, beq_iff_eq, Bool.not_eq_true']
  match l, hb', hl' with
  | [], _, _ => rfl
  | [x], hb', _ =>
    have hx : x < 256 := hb' x (by simp)
    simp only [nI_cons, nI_nil, geti_c0, List.length_cons, List.length_nil, and1_8 hx, List.take_succ_cons, List.take_zero, get_be1 hx, w16, Nat.mod_eq_of_lt (show x < 65536 by omega), h132_is (show x < 65536 by omega), pt20, fin20]
    rw [if_pos (by omega)]
    by_cases h1 : x % 2 = 1
    · rw [if_pos (by omega), if_neg (by omega), if_pos (by omega), if_pos (by omega), if_pos h1]
      by_cases h2 : may20 x = false
      · rw [if_pos h2, if_pos h2]; rfl
      · rw [if_neg h2, if_neg h2]; rfl
    · rw [if_neg (by omega), if_pos (by omega), if_neg h1]; rfl
  | x :: y :: r, hb', hl' =>
    have hx : x < 256 := hb' x (by simp)
    have hy : y < 256 := hb' y (by simp)
    have hr : r.length ≤ 100000 := by simp at hl'; omega
    simp only [nI_cons, nI_nil, geti_c0, List.length_cons, and1_8 hx, List.take_succ_cons, List.take_zero, List.drop_succ_cons, List.drop_zero, get_be1 hx, get_be2 hx hy, w16, Nat.mod_eq_of_lt (show x < 65536 by omega), Nat.mod_eq_of_lt (show x * 256 + y < 65536 by omega), h132_is (show x < 65536 by omega), h132_is (show x * 256 + y < 65536 by omega), pt20, fin20, Nat.mul_comm 256 x, nI_len]
    rw [if_pos (by omega)]
    by_cases h1 : x % 2 = 1
    · rw [if_pos (by omega), if_neg (by omega), if_pos (by omega), if_pos (by omega), if_pos h1]
      by_cases h2 : may20 x = false
      · rw [if_pos h2, if_pos h2]; rfl
      · rw [if_neg h2, if_neg h2]
        by_cases h3 : 4000 < r.length + 1
        · rw [if_pos (by omega), if_pos h3]; rfl
        · rw [if_neg (by omega), if_neg h3]
          have e : ((y : Int) :: nI r) = nI (y :: r) := rfl
          simp only [e, f108_nI (l := y :: r) (by simp; omega), List.drop_zero, List.take_length]
          rw [if_pos (by omega)]; rfl
    · rw [if_neg (by omega), if_neg (by omega), if_pos (by omega), if_pos (by omega), if_neg h1]
      by_cases h2 : may20 (x * 256 + y) = false
      · rw [if_pos h2, if_pos h2]; rfl
      · rw [if_neg h2, if_neg h2]
        by_cases h3 : 4000 < r.length
        · rw [if_pos (by omega), if_pos h3]; rfl
        · rw [if_neg (by omega), if_neg h3]
          simp only [f108_nI hr, List.drop_zero, List.take_length]
          rw [if_pos (by omega)]; rfl
def h136 (b : List Int) := p136 h133 0 b
theorem E136 : EntOK FT XT 136 (en136 h136) := ok136 h133 E133 fun _ _ h => ⟨0, h⟩
/-- the reference's frame behind the first bytes -/
def tail136 (l : List Int) : Option ((Int × (List Int)) × Int) :=
  bif (((List.length l : Nat) : Int) == 0) then some ((0, ([] : List Int)), 4)
  else
    match geti l 0 with
    | none => none
    | some x3 =>
      bif (decide (1 ≤ (((List.length l) : Nat) : Int))) then
        match geti l 0 with
        | none => none
        | some x4 =>
          bif ((irem x4 2) == 0) then
            bif (decide ((((List.length l) : Nat) : Int) < 2)) then some ((0, ([] : List Int)), 4)
            else
              match geti l 0 with
              | none => none
              | some x5 =>
                match geti l 1 with
                | none => none
                | some x6 =>
                  bif (decide (2 ≤ (((List.length l) : Nat) : Int))) then
                    match h133 (iadd .u16 (imul .u16 256 (IntKind.wrap .u16 x5)) (IntKind.wrap .u16 x6)) with
                    | none => none
                    | some r7 =>
                      bif (!r7) then some ((0, ([] : List Int)), 3)
                      else
                        bif (decide ((((List.length (List.drop 2 l)) : Nat) : Int) > 4000)) then some ((0, ([] : List Int)), 8)
                        else some (((iadd .u16 (imul .u16 256 (IntKind.wrap .u16 x5)) (IntKind.wrap .u16 x6)), (List.drop 2 l)), 0)
                  else none
          else
            match h133 (IntKind.wrap .u16 x3) with
            | none => none
            | some r8 =>
              bif (!r8) then some ((0, ([] : List Int)), 3)
              else
                bif (decide ((((List.length (List.drop 1 l)) : Nat) : Int) > 4000)) then some ((0, ([] : List Int)), 8)
                else some (((IntKind.wrap .u16 x3), (List.drop 1 l)), 0)
      else none
theorem h136_tail (l : List Int) : h136 l =
  bif (decide (((List.length l : Nat) : Int) ≥ 2)) then
    match geti l 0 with
    | none => none
    | some x1 =>
      bif (x1 == 255) then
        match geti l 1 with
        | none => none
        | some x2 =>
          bif (x2 == 3) then
            bif (decide (2 ≤ ((List.length l : Nat) : Int))) then tail136 (List.drop 2 l) else none
          else tail136 l
      else tail136 l
  else tail136 l := rfl
theorem mul16 (a b : Nat) : imul .u16 (a : Int) (b : Int) = ((a * b % 65536 : Nat) : Int) := by
  unfold imul
  rw [wrap_u16]; norm_cast
theorem add16 (a b : Nat) : iadd .u16 (a : Int) (b : Int) = (((a + b) % 65536 : Nat) : Int) := iadd_u .u16 rfl a b
theorem tail136_is {l : List Nat} (hb' : bel 256 l) : tail136 (nI l) = some (enF (pt20 l)) := by
  unfold tail136
  simp only [nI_len, Bool.cond_eq_ite, decide_eq_true_eq, beq_iff_eq, Bool.not_eq_true']
  match l, hb' with
  | [], _ => rfl
  | [x], hb' =>
    have hx : x < 256 := hb' x (by simp)
    simp only [nI_cons, nI_nil, geti_c0, List.length_cons, List.length_nil, rem2, w16, Nat.mod_eq_of_lt (show x < 65536 by omega), h133_is (show x < 65536 by omega), pt20, fin20, List.drop_succ_cons, List.drop_zero]
    rw [if_neg (by omega), if_pos (by omega)]
    by_cases h1 : x % 2 = 1
    · rw [if_neg (by omega), if_pos h1]
      by_cases h2 : may20 x = false
      · rw [if_pos h2, if_pos h2]; rfl
      · rw [if_neg h2, if_neg h2]; rfl
    · rw [if_pos (by omega), if_pos (by omega), if_neg h1]; rfl
  | x :: y :: r, hb' =>
    have hx : x < 256 := hb' x (by simp)
    have hy : y < 256 := hb' y (by simp)
    have ex : IntKind.wrap .u16 (x : Int) = (x : Int) := by rw [w16, Nat.mod_eq_of_lt (show x < 65536 by omega)]
    have ey : IntKind.wrap .u16 (y : Int) = (y : Int) := by rw [w16, Nat.mod_eq_of_lt (show y < 65536 by omega)]
    have e : iadd .u16 (imul .u16 256 (x : Int)) (y : Int) = ((256 * x + y : Nat) : Int) := by
      rw [show (256 : Int) = ((256 : Nat) : Int) from rfl, mul16, Nat.mod_eq_of_lt (show 256 * x < 65536 by omega), add16, Nat.mod_eq_of_lt (show 256 * x + y < 65536 by omega)]
    simp only [nI_cons, nI_nil, geti_c0, geti_c1, ex, ey, e, List.length_cons, rem2, List.drop_succ_cons, List.drop_zero, h133_is (show x < 65536 by omega), h133_is (show 256 * x + y < 65536 by omega), pt20, fin20, nI_len]
    rw [if_neg (by omega), if_pos (by omega)]
    by_cases h1 : x % 2 = 1
    · rw [if_neg (by omega), if_pos h1]
      by_cases h2 : may20 x = false
      · rw [if_pos h2, if_pos h2]; rfl
      · rw [if_neg h2, if_neg h2]
        by_cases h3 : 4000 < r.length + 1
        · rw [if_pos (by omega), if_pos h3]; rfl
        · rw [if_neg (by omega), if_neg h3]; rfl
    · rw [if_pos (by omega), if_neg (by omega), if_pos (by omega), if_neg h1]
      by_cases h2 : may20 (256 * x + y) = false
      · rw [if_pos h2, if_pos h2]; rfl
      · rw [if_neg h2, if_neg h2]
        by_cases h3 : 4000 < r.length
        · rw [if_pos (by omega), if_pos h3]; rfl
        · rw [if_neg (by omega), if_neg h3]; rfl
theorem h136_is {b : List Nat} (hb : bel 256 b) : h136 (nI b) = some (enF (pt20 (trim20 b))) := by
  rw [h136_tail]
  simp only [nI_len, Bool.cond_eq_ite, decide_eq_true_eq, beq_iff_eq, nI_drop, tail136_is hb, tail136_is (bel_drop hb)]
  unfold trim20
  match b with
  | [] => rfl
  | [x] => rw [if_neg (by simp), if_neg (by simp)]
  | x :: y :: r =>
    simp only [nI_cons, geti_c0, geti_c1, List.length_cons, List.take_succ_cons, List.take_zero, List.cons.injEq, and_true]
    rw [if_pos (by omega)]
    by_cases hx : x = 255
    · rw [if_pos (by omega)]
      by_cases hy : y = 3
      · rw [if_pos (by omega), if_pos (by omega), if_pos ⟨hx, hy⟩]
      · rw [if_neg (by omega), if_neg (fun g => hy g.2)]
    · rw [if_neg (by omega), if_neg (fun g => hx g.1)]
/-! ### a probe -/
def f127 : Option Bool := some true
theorem E127 : EntOK FT XT 127 (en127 f127) := ok127 h128 h131 h135 h134 h132 E128 E131 E135 E134 E132 fun r h => ⟨0, by rw [← h]; kernel_rfl⟩
/-! ### there and back -/
theorem may20_odd {p : Nat} (h : ¬ may20 p = false) : p % 2 = 1 ∧ p / 256 % 2 = 0 ∧ p ≠ 255 := by
  unfold may20 at h
  simp only [Bool.not_eq_false, Bool.and_eq_true, beq_iff_eq, bne_iff_ne] at h
  exact h
theorem back20 {p : Nat} {d : List Nat} (hp : p < 65536) (bare short : Bool) (h : (lay20 p d bare short).2 = 0) : pt20 (trim20 (lay20 p d bare short).1) = ((p, d), 0) := by
  unfold lay20 at h ⊢
  by_cases hm : may20 p = false
  · rw [if_pos hm] at h; cases h
  rw [if_neg hm] at h ⊢
  by_cases h4 : 4000 < d.length
  · rw [if_pos h4] at h; cases h
  rw [if_neg h4]
  obtain ⟨m1, m2, m3⟩ := may20_odd hm
  have hrest : pt20 ((if short = true ∧ p ≤ 255 then [p] else [p / 256, p % 256]) ++ d) = ((p, d), 0) := by
    by_cases hs : short = true ∧ p ≤ 255
    · rw [if_pos hs]
      simp only [List.singleton_append, pt20, fin20]
      rw [if_pos m1, if_neg hm, if_neg h4]
    · rw [if_neg hs]
      simp only [List.cons_append, List.nil_append, pt20, fin20]
      rw [if_neg (by omega), show 256 * (p / 256) + p % 256 = p by omega, if_neg hm, if_neg h4]
  show pt20 (trim20 ((if bare = true then [] else [255, 3]) ++ ((if short = true ∧ p ≤ 255 then [p] else [p / 256, p % 256]) ++ d))) = _
  cases bare
  · rw [if_neg (by decide)]
    have : trim20 ([255, 3] ++ ((if short = true ∧ p ≤ 255 then [p] else [p / 256, p % 256]) ++ d)) = ((if short = true ∧ p ≤ 255 then [p] else [p / 256, p % 256]) ++ d) := by
      unfold trim20
      rw [if_pos (by simp)]
      rfl
    rw [this, hrest]
  · rw [if_pos rfl, List.nil_append]
    have : trim20 ((if short = true ∧ p ≤ 255 then [p] else [p / 256, p % 256]) ++ d) = ((if short = true ∧ p ≤ 255 then [p] else [p / 256, p % 256]) ++ d) := by
      unfold trim20
      refine if_neg (fun g => ?_)
      by_cases hs : short = true ∧ p ≤ 255
      · rw [if_pos hs] at g
        simp only [List.singleton_append, List.take_succ_cons, List.cons.injEq] at g
        omega
      · rw [if_neg hs] at g
        simp only [List.cons_append, List.nil_append, List.take_succ_cons, List.cons.injEq] at g
        omega
    rw [this, hrest]
theorem lay20_bel {p : Nat} {d : List Nat} (hp : p < 65536) (hd : bel 256 d) (bare short : Bool) : bel 256 (lay20 p d bare short).1 := by
  unfold lay20
  split
  · exact fun x hx => by cases hx
  split
  · exact fun x hx => by cases hx
  refine bel_app ?_ (bel_app ?_ hd)
  · split
    · exact fun x hx => by cases hx
    · exact fun x hx => by simp at hx; omega
  · split
    · exact fun x hx => by simp at hx; omega
    · exact fun x hx => by simp at hx; omega
theorem lay20_len {p : Nat} {d : List Nat} (bare short : Bool) : (lay20 p d bare short).1.length ≤ d.length + 4 := by
  unfold lay20
  split
  · exact Nat.zero_le _
  split
  · exact Nat.zero_le _
  simp only [List.length_append]
  split <;> split <;> simp <;> omega
theorem fin20_le {p : Nat} {d : List Nat} {x : (Nat × List Nat) × Nat} (h : x = fin20 p d) (hd : bel 256 d) : bel 256 x.1.2 := by
  subst h
  unfold fin20
  split
  · exact fun x hx => by cases hx
  split
  · exact fun x hx => by cases hx
  exact hd
theorem pt20_bel {l : List Nat} (h : bel 256 l) : bel 256 (pt20 l).1.2 := by
  match l, h with
  | [], _ => exact fun x hx => by cases hx
  | [x], h =>
    simp only [pt20]
    split
    · exact fin20_le rfl (fun x hx => by cases hx)
    · exact fun x hx => by cases hx
  | x :: y :: r, h =>
    simp only [pt20]
    split
    · exact fin20_le rfl (fun z hz => h z (by simp at hz ⊢; exact .inr hz))
    · exact fin20_le rfl (fun z hz => h z (by simp; exact .inr (.inr hz)))
theorem pt20_len {l : List Nat} : (pt20 l).1.2.length ≤ l.length := by
  have f : ∀ p d, (fin20 p d).1.2.length ≤ d.length := fun p d => by unfold fin20; split; exact Nat.zero_le _; split; exact Nat.zero_le _; exact Nat.le_refl _
  match l with
  | [] => exact Nat.le_refl _
  | [x] =>
    simp only [pt20]
    split
    · exact Nat.le_trans (f _ _) (Nat.zero_le _)
    · exact Nat.zero_le _
  | x :: y :: r =>
    simp only [pt20]
    split
    · refine Nat.le_trans (f _ _) ?_; simp
    · refine Nat.le_trans (f _ _) ?_; simp; omega
/-! ### laws -/
section
variable {c127 : Option Bool} {c132 c133 c134 : Int → Option Bool} {c129 : Int × (List Int) → Option (Int × (List Int))} {c128 c130 : Int × (List Int) → Bool → Bool → Option ((List Int) × Int)} {c131 c136 : List Int → Option ((Int × (List Int)) × Int)} {c23 : List Int → List Int → Option Bool} {c135 c137 : Int × (List Int) → Int × (List Int) → Option Bool}
theorem p121_is {N : Nat} {p : Int} {d l : List Int} {bare short m : Bool} {e : Int} {P : (Int × List Int) × Int} (A : c127 = some true) (F129 : ∀ a, c129 a = some a) (F128 : c128 (p, d) bare short = some (l, e)) (F130 : c130 (p, d) bare short = some (l, e)) (F131 : c131 l = some P) (F23 : c23 l l = some true)
    (F132 : c132 p = some m) (F133 : c133 p = some m) (F134 : c134 p = some ((p == 33) || ((p == 32801) || ((p == 49185) || (p == 49699))))) (F135 : e = 0 → c135 P.1 (p, d) = some true ∧ P.2 = 0) : p121 c127 c129 c128 c130 c131 c23 c132 c133 c134 c135 N (p, d) bare short = some true := by
  obtain ⟨⟨P1, P2⟩, P3⟩ := P
  unfold p121
  by_cases he : e = 0
  · obtain ⟨g1, g2⟩ := F135 he
    simp only [] at g1 g2
    by_cases h1 : p = 33
    · subst h1
      simp only [A, F129, F128, F130, F131, F23, F132, F133, F134, he, g1, g2, beq_self_eq_true, bne_self_eq_false, cond_true, cond_false, Bool.true_or, Bool.or_true]
      cases decide (((List.length d : Nat) : Int) > 4500) <;> rfl
    · by_cases h2 : p = 32801
      · subst h2
        simp only [A, F129, F128, F130, F131, F23, F132, F133, F134, he, g1, g2, beq_self_eq_true, bne_self_eq_false, cond_true, cond_false, Bool.true_or, Bool.or_true]
        cases decide (((List.length d : Nat) : Int) > 4500) <;> rfl
      · by_cases h3 : p = 49185
        · subst h3
          simp only [A, F129, F128, F130, F131, F23, F132, F133, F134, he, g1, g2, beq_self_eq_true, bne_self_eq_false, cond_true, cond_false, Bool.true_or, Bool.or_true]
          cases decide (((List.length d : Nat) : Int) > 4500) <;> rfl
        · simp only [A, F129, F128, F130, F131, F23, F132, F133, F134, he, g1, g2, beq_self_eq_true, bne_self_eq_false, cond_true, cond_false, beq_eq_false_iff_ne.2 h1, beq_eq_false_iff_ne.2 h2, beq_eq_false_iff_ne.2 h3, Bool.false_or]
          cases decide (((List.length d : Nat) : Int) > 4500) <;> rfl
  · have he' : (e != 0) = true := bne_iff_ne.2 he
    by_cases h1 : p = 33
    · subst h1
      simp only [A, F129, F128, F130, F131, F23, F132, F133, F134, he', beq_self_eq_true, bne_self_eq_false, cond_true, cond_false, Bool.true_or, Bool.or_true]
      cases decide (((List.length d : Nat) : Int) > 4500) <;> rfl
    · by_cases h2 : p = 32801
      · subst h2
        simp only [A, F129, F128, F130, F131, F23, F132, F133, F134, he', beq_self_eq_true, bne_self_eq_false, cond_true, cond_false, Bool.true_or, Bool.or_true]
        cases decide (((List.length d : Nat) : Int) > 4500) <;> rfl
      · by_cases h3 : p = 49185
        · subst h3
          simp only [A, F129, F128, F130, F131, F23, F132, F133, F134, he', beq_self_eq_true, bne_self_eq_false, cond_true, cond_false, Bool.true_or, Bool.or_true]
          cases decide (((List.length d : Nat) : Int) > 4500) <;> rfl
        · simp only [A, F129, F128, F130, F131, F23, F132, F133, F134, he', beq_self_eq_true, bne_self_eq_false, cond_true, cond_false, beq_eq_false_iff_ne.2 h1, beq_eq_false_iff_ne.2 h2, beq_eq_false_iff_ne.2 h3, Bool.false_or]
          cases decide (((List.length d : Nat) : Int) > 4500) <;> rfl
theorem p121_far {N : Nat} {a : Int × List Int} {bare short : Bool} (A : c127 = some true) (h : 4500 < a.2.length) : p121 c127 c129 c128 c130 c131 c23 c132 c133 c134 c135 N a bare short = some true := by
  unfold p121
  rw [show decide (((List.length a.2 : Nat) : Int) > 4500) = true from decide_eq_true (by omega), cond_true, A]
theorem p122_is {N : Nat} {b : List Int} {f : Int × List Int} {P : (Int × List Int) × Int} {s : Bool} (A : c127 = some true) (F129 : ∀ a, c129 a = some a) (F131 : c131 b = some P) (F136 : c136 b = some P) (F135 : c135 P.1 P.1 = some true) (F1 : c135 P.1 f = some s) (F2 : c137 P.1 f = some s) : p122 c127 c131 c136 c129 c135 c137 N b f = some true := by
  obtain ⟨⟨P1, P2⟩, P3⟩ := P
  obtain ⟨f1, f2⟩ := f
  unfold p122
  simp only [] at F135 F1 F2
  simp only [A, F129, F131, F136, F135, F1, F2, beq_self_eq_true, cond_true]
  cases decide (((List.length b : Nat) : Int) > 4500) <;> cases decide (((List.length f2 : Nat) : Int) > 4500) <;> rfl
theorem p122_far {N : Nat} {b : List Int} {f : Int × List Int} (A : c127 = some true) (h : 4500 < b.length ∨ 4500 < f.2.length) : p122 c127 c131 c136 c129 c135 c137 N b f = some true := by
  unfold p122
  simp only [A]
  by_cases h1 : 4500 < b.length
  · rw [show decide (((List.length b : Nat) : Int) > 4500) = true from decide_eq_true (by omega), cond_true]
  · rw [show decide (((List.length f.2 : Nat) : Int) > 4500) = true from decide_eq_true (by omega), cond_true]
    cases decide (((List.length b : Nat) : Int) > 4500) <;> rfl
theorem p123_is {N : Nat} {p k : Int} {d l1 l2 l3 : List Int} (A : c127 = some true) (F132 : c132 p = some true) (F129 : ∀ a, c129 a = some a) (F1 : c128 (p, d) false false = some (l1, 0)) (F2 : c128 (p, d) true false = some (l2, 0)) (F3 : c128 (p, d) true true = some (l3, 0)) (hd : d.length ≤ 4000)
    (e1 : l1.length = 4 + d.length) (e2 : l2.length = 2 + d.length) (e3 : (p < 256 ∧ l3.length = 1 + d.length ∧ c23 (l3.drop 1) d = some true) ∨ (¬ p < 256 ∧ l3.length = 2 + d.length ∧ c23 (l3.drop 2) d = some true)) (G1 : c23 (l1.drop 4) d = some true) (G2 : c23 (l1.drop 2) l2 = some true) : p123 c127 c132 c129 c128 c23 N (p, d) = some true := by
  unfold p123
  have i1 : iadd .i64 4 ((d.length : Nat) : Int) = ((4 + d.length : Nat) : Int) := by rw [show (4 : Int) = ((4 : Nat) : Int) from rfl, addn (by omega)]
  have i2 : isub .i64 ((4 + d.length : Nat) : Int) 2 = ((2 + d.length : Nat) : Int) := by rw [show (2 : Int) = ((2 : Nat) : Int) from rfl, subn (by omega) (by omega)]; congr 1; omega
  have i3 : isub .i64 ((2 + d.length : Nat) : Int) 1 = ((1 + d.length : Nat) : Int) := by rw [show (1 : Int) = ((1 : Nat) : Int) from rfl, subn (by omega) (by omega)]; congr 1; omega
  have i4 : isub .i64 ((2 + d.length : Nat) : Int) 0 = ((2 + d.length : Nat) : Int) := by rw [show (0 : Int) = ((0 : Nat) : Int) from rfl, subn (by omega) (by omega)]; rfl
  simp only [A, F132, F129, F1, F2, F3, e1, e2, i1, i2, i3, i4, G1, G2, beq_self_eq_true, cond_true, cond_false, Bool.not_true, show decide (((List.length d : Nat) : Int) > 4000) = false from decide_eq_false (by omega), show decide ((4 : Int) ≤ ((4 + d.length : Nat) : Int)) = true from decide_eq_true (by omega), show decide ((2 : Int) ≤ ((4 + d.length : Nat) : Int)) = true from decide_eq_true (by omega)]
  rcases e3 with ⟨g1, g2, g3⟩ | ⟨g1, g2, g3⟩
  · simp only [decide_eq_true g1, cond_true, g2, g3, beq_self_eq_true, show decide ((1 : Int) ≤ ((1 + d.length : Nat) : Int)) = true from decide_eq_true (by omega)]
  · simp only [decide_eq_false g1, cond_true, cond_false, g2, g3, beq_self_eq_true, show decide ((2 : Int) ≤ ((2 + d.length : Nat) : Int)) = true from decide_eq_true (by omega)]
theorem p123_far {N : Nat} {a : Int × List Int} (A : c127 = some true) (h : 4000 < a.2.length ∨ c132 a.1 = some false) (F : ∃ b, c132 a.1 = some b) : p123 c127 c132 c129 c128 c23 N a = some true := by
  unfold p123
  obtain ⟨b, F⟩ := F
  rcases h with h | h
  · rw [show decide (((List.length a.2 : Nat) : Int) > 4000) = true from decide_eq_true (by omega), cond_true, A]
  · simp only [h, A, Bool.not_false, cond_true]
    cases decide (((List.length a.2 : Nat) : Int) > 4000) <;> rfl
end
theorem wf16 {x : Int} (h : (Lit.int .u16 x).wf = true) : ∃ n : Nat, x = (n : Int) ∧ n < 65536 := by
  obtain ⟨h1, h2⟩ := wf_u (k := .u16) rfl h
  exact ⟨x.toNat, by omega, by have : x < 65536 := h2; omega⟩
theorem wf8s {l : List Int} (h : ∀ x ∈ l, (Lit.int .u8 x).wf = true) : ∃ r : List Nat, l = nI r ∧ bel 256 r := by
  obtain ⟨r, rfl⟩ := nI_of (fun x hx => (wf_u (k := .u8) rfl (h x hx)).1)
  refine ⟨r, rfl, fun x hx => ?_⟩
  have := (wf_u (k := .u8) rfl (h (x : Int) (by unfold nI; exact List.mem_map.2 ⟨x, hx, rfl⟩))).2
  have : (x : Int) < 256 := this
  omega
def f121 (a : Int × List Int) (b c : Bool) : Option Bool := p121 f127 h129 h128 h130 h131 f23 h132 h133 h134 h135 0 a b c
theorem E121 : EntOK FT XT 121 (en121 f121) := ok121 f127 h129 h128 h130 h131 f23 h132 h133 h134 h135 E127 E129 E128 E130 E131 E23 E132 E133 E134 E135 fun _ _ _ _ h => ⟨0, h⟩
theorem f121_is {p : Nat} {d : List Nat} (hp : p < 65536) (hd : bel 256 d) (bare short : Bool) : f121 ((p : Int), nI d) bare short = some true := by
  unfold f121
  by_cases h : 4500 < d.length
  · exact p121_far rfl (by simpa [nI_len] using h)
  have hl := lay20_len (p := p) (d := d) bare short
  have hb := lay20_bel hp hd bare short
  refine p121_is (e := ((lay20 p d bare short).2 : Int)) rfl h129_is (h128_is hp (by omega) bare short) (h130_is hp (by omega) bare short) (h131_is hb (by omega)) (f23_same (by rw [nI_len]; omega)) (h132_is hp) (h133_is hp) (h134_is _) (fun he => ?_)
  have hbk := back20 hp bare short (show (lay20 p d bare short).2 = 0 by omega)
  rw [hbk]
  refine ⟨?_, rfl⟩
  show h135 ((p : Int), nI d) ((p : Int), nI d) = some true
  rw [h135_is hd hd]
  simp
def f122 (a : List Int) (b : Int × List Int) : Option Bool := p122 f127 h131 h136 h129 h135 h137 0 a b
theorem E122 : EntOK FT XT 122 (en122 f122) := ok122 f127 h131 h136 h129 h135 h137 E127 E131 E136 E129 E135 E137 fun _ _ _ h => ⟨0, h⟩
theorem f122_is {p : Nat} {b d : List Nat} (hb : bel 256 b) (hd : bel 256 d) : f122 (nI b) ((p : Int), nI d) = some true := by
  unfold f122
  by_cases h : 4500 < b.length ∨ 4500 < d.length
  · exact p122_far rfl (by simpa [nI_len] using h)
  have hbb := pt20_bel (trim20_bel hb)
  have hll : (pt20 (trim20 b)).1.2.length ≤ b.length := Nat.le_trans pt20_len (trim20_len b)
  refine p122_is rfl h129_is (h131_is hb (by omega)) (h136_is hb) (s := ((pt20 (trim20 b)).1.1 == p && (pt20 (trim20 b)).1.2 == d)) ?_ ?_ ?_
  · show h135 (((pt20 (trim20 b)).1.1 : Int), nI (pt20 (trim20 b)).1.2) (((pt20 (trim20 b)).1.1 : Int), nI (pt20 (trim20 b)).1.2) = some true
    rw [h135_is hbb hbb]; simp
  · exact h135_is hbb hd
  · exact h137_is (by omega)
def f123 (a : Int × List Int) : Option Bool := p123 f127 h132 h129 h128 f23 0 a
theorem E123 : EntOK FT XT 123 (en123 f123) := ok123 f127 h132 h129 h128 f23 E127 E132 E129 E128 E23 fun _ _ h => ⟨0, h⟩
theorem f123_is {p : Nat} {d : List Nat} (hp : p < 65536) (hd : bel 256 d) : f123 ((p : Int), nI d) = some true := by
  unfold f123
  by_cases h : 4000 < d.length ∨ may20 p = false
  · refine p123_far rfl ?_ ⟨_, h132_is hp⟩
    rcases h with h | h
    · exact .inl (by simpa [nI_len] using h)
    · exact .inr (by rw [h132_is hp, h])
  have hm : ¬ may20 p = false := fun g => h (.inr g)
  have h4 : ¬ 4000 < d.length := fun g => h (.inl g)
  have L : ∀ bare short, lay20 p d bare short = ((if bare = true then [] else [255, 3]) ++ ((if short = true ∧ p ≤ 255 then [p] else [p / 256, p % 256]) ++ d), 0) := fun bare short => by
    unfold lay20; rw [if_neg hm, if_neg h4]
  have F : ∀ bare short, h128 ((p : Int), nI d) bare short = some (nI ((if bare = true then [] else [255, 3]) ++ ((if short = true ∧ p ≤ 255 then [p] else [p / 256, p % 256]) ++ d)), 0) := fun bare short => by
    rw [h128_is hp (by omega), L]; rfl
  have l3 := F true true
  refine p123_is (k := 0) rfl (by rw [h132_is hp]; congr 1; simpa using hm) h129_is (F false false) (F true false) l3 (by rw [nI_len]; omega) ?_ ?_ ?_ ?_ ?_
  · simp [nI_len]; omega
  · simp [nI_len]; omega
  · by_cases h5 : p ≤ 255
    · refine .inl ⟨by omega, ?_, ?_⟩
      · simp [nI_len, h5]; omega
      · rw [nI_drop]; simp [h5]; exact f23_same (by rw [nI_len]; omega)
    · refine .inr ⟨by omega, ?_, ?_⟩
      · simp [nI_len, h5]; omega
      · rw [nI_drop]; simp [h5]; exact f23_same (by rw [nI_len]; omega)
  · rw [nI_drop]; simp; exact f23_same (by rw [nI_len]; omega)
  · rw [nI_drop]; simp; exact f23_same (by simp [nI_len]; omega)
theorem law121 (z0 : Int × List Int) (z1 z2 : Bool) (h0 : (Lit.int .u16 z0.1).wf = true ∧ z0.2.length ≤ maxLen ∧ ∀ x ∈ z0.2, (Lit.int .u8 x).wf = true) (h1 h2 : True) : Ans FT XT 121 (encL [Sh.st (Sh.pr (.int .u16) (Sh.sl (.int .u8))), Sh.bool, Sh.bool] (z0, (z1, (z2, ())))) [] (.bool true) [] := by
  obtain ⟨a, b⟩ := z0
  obtain ⟨p, rfl, hp⟩ := wf16 h0.1
  obtain ⟨d, rfl, hd⟩ := wf8s h0.2.2
  exact E121.2 (((p : Int), nI d), (z1, (z2, ()))) true (f121_is hp hd z1 z2)
theorem law122 (z0 : List Int) (z1 : Int × List Int) (h0 : z0.length ≤ maxLen ∧ ∀ x ∈ z0, (Lit.int .u8 x).wf = true) (h1 : (Lit.int .u16 z1.1).wf = true ∧ z1.2.length ≤ maxLen ∧ ∀ x ∈ z1.2, (Lit.int .u8 x).wf = true) : Ans FT XT 122 (encL [Sh.sl (.int .u8), Sh.st (Sh.pr (.int .u16) (Sh.sl (.int .u8)))] (z0, (z1, ()))) [] (.bool true) [] := by
  obtain ⟨a, b⟩ := z1
  obtain ⟨p, rfl, hp⟩ := wf16 h1.1
  obtain ⟨d, rfl, hd⟩ := wf8s h1.2.2
  obtain ⟨b, rfl, hb⟩ := wf8s h0.2
  exact E122.2 (nI b, (((p : Int), nI d), ())) true (f122_is hb hd)
theorem law123 (z0 : Int × List Int) (h0 : (Lit.int .u16 z0.1).wf = true ∧ z0.2.length ≤ maxLen ∧ ∀ x ∈ z0.2, (Lit.int .u8 x).wf = true) : Ans FT XT 123 (encL [Sh.st (Sh.pr (.int .u16) (Sh.sl (.int .u8)))] (z0, ())) [] (.bool true) [] := by
  obtain ⟨a, b⟩ := z0
  obtain ⟨p, rfl, hp⟩ := wf16 h0.1
  obtain ⟨d, rfl, hd⟩ := wf8s h0.2.2
  exact E123.2 (((p : Int), nI d), ()) true (f123_is hp hd)
end Go.Proofs.YtjkdflcccoeggaaE
