/- Texts: signs, units, bytes; the document's. -/
import Derived.Test.YtchoafdpckknmaaDoorEvzBa0
import Derived.Test.YtchoafdpckknmaaDoorEvU8
import Derived.KernelRfl
namespace Go.Proofs.YtchoafdpckknmaaDoorE
open Go
set_option linter.unusedSimpArgs false
set_option linter.unusedVariables false
set_option maxRecDepth 4000
/-! ### how many signs -/
theorem L397_is (N : Nat) (q : Int → Option Int) (s : List UInt8) (hs : s.length ≤ 1000) : ∀ (l : List Nat) (pos k fuel : Nat), signs (s.drop pos) = some l → pos ≤ s.length → l.length < fuel → k ≤ pos →
    L397_0 N q fuel (k : Int) s pos = q ((k + l.length : Nat) : Int)
  | [], pos, k, fuel, h, hp, hf, hk => by
    obtain ⟨m, rfl⟩ : ∃ m, fuel = m + 1 := ⟨fuel - 1, by omega⟩
    have := signs_nil h
    simp only [L397_0, show ¬ (pos < s.length) by omega, decide_false, cond_false, List.length_nil, Nat.add_zero]
  | n :: l, pos, k, fuel, h, hp, hf, hk => by
    obtain ⟨m, rfl⟩ : ∃ m, fuel = m + 1 := ⟨fuel - 1, by omega⟩
    obtain ⟨w, h1, h2, h3, h4, h5, _⟩ := signs_step h
    simp only [List.length_cons] at hf
    simp only [L397_0, h4, decide_true, cond_true, decode_of h1]
    rw [up1 (by omega), L397_is N q s hs l (pos + w) (k + 1) m h2 h3 (by omega) (by omega)]
    congr 2
    simp; omega
def h397 (s : List UInt8) := p397 1200 s
theorem E397 : EntOK FT XU 397 (en397 h397) := ok397 fun _ _ h => ⟨1200, h⟩
theorem h397_is {s : List UInt8} {l : List Nat} (hs : s.length ≤ 1000) (h : signs s = some l) : h397 s = some ((l.length : Nat) : Int) := by
  have hl := signs_len (s := s) (pos := 0) h (by omega)
  unfold h397 p397
  rw [show (0 : Int) = ((0 : Nat) : Int) from rfl, L397_is 1200 _ s hs l 0 0 1200 h (by omega) (by omega) (by omega)]
  simp
/-! ### the document's signs -/
def h404 (s : List UInt8) (i : Int) := p404 0 s i
theorem E404 : EntOK FT XU 404 (en404 h404) := ok404 fun _ _ _ h => ⟨0, h⟩
theorem wi8 (b : UInt8) : IntKind.wrap .i64 ((b.toNat : Nat) : Int) = ((b.toNat : Nat) : Int) := wrap_i64 (by omega) (by have := UInt8.toNat_lt b; omega)
theorem h404_none {s : List UInt8} {i : Nat} (h : s.length ≤ i) : h404 s (i : Int) = some (0, false) := by
  unfold h404 p404
  simp only [show ((i : Nat) : Int) ≥ ((s.length : Nat) : Int) by omega, decide_true, cond_true]
theorem h404_some {s : List UInt8} {i : Nat} {b : UInt8} (h : s[i]? = some b) : h404 s (i : Int) = some (if ctb b then (((b.toNat - 128 : Nat) : Int), true) else (0, false)) := by
  have hi := (List.getElem?_eq_some_iff.1 h).1
  have hb := UInt8.toNat_lt b
  unfold h404 p404
  simp only [show ¬ (((i : Nat) : Int) ≥ ((s.length : Nat) : Int)) by omega, decide_false, cond_false, geti_nat, h]
  unfold ctb
  by_cases h1 : b.toNat < 128
  · simp only [show ((b.toNat : Nat) : Int) < 128 by omega, decide_true, cond_true, show ¬ (128 ≤ b.toNat) by omega, decide_false, Bool.false_and, Bool.false_eq_true, if_false]
  · by_cases h2 : b.toNat ≤ 191
    · simp only [show ¬ (((b.toNat : Nat) : Int) < 128) by omega, show ¬ (((b.toNat : Nat) : Int) > 191) by omega, decide_false, cond_false, show (128 ≤ b.toNat) by omega, h2, decide_true, Bool.and_self, if_true, wi8]
      rw [show (128 : Int) = ((128 : Nat) : Int) from rfl, subn (by omega) (by omega)]
    · simp only [show ¬ (((b.toNat : Nat) : Int) < 128) by omega, show (((b.toNat : Nat) : Int) > 191) by omega, decide_false, cond_false, decide_true, cond_true, h2, Bool.and_false, Bool.false_eq_true, if_false]
def fin2 (n least need : Int) : Option (Int × Int) :=
  bif (decide (n < least)) then some ((0 : Int), (0 : Int)) else
  bif (decide (n > (1114111 : Int))) then some ((0 : Int), (0 : Int)) else
  bif (decide (n ≥ (55296 : Int))) then (bif (decide (n ≤ (57343 : Int))) then some ((0 : Int), (0 : Int)) else some (n, (iadd .i64 need (1 : Int)))) else some (n, (iadd .i64 need (1 : Int)))
def dI (o : Option (Nat × Nat)) : Option (Int × Int) := some (match o with | none => (0, 0) | some (n, w) => ((n : Int), (w : Int)))
theorem fin2_is (n least w : Nat) (hw : w ≤ 3) : fin2 (n : Int) (least : Int) (w : Int) = dI (fin1 n least (w + 1)) := by
  unfold fin2 fin1 dI
  rw [up1 (by omega)]
  by_cases h1 : n < least
  · rw [if_neg (by omega)]
    simp only [show ((n : Nat) : Int) < ((least : Nat) : Int) by omega, decide_true, cond_true]
  · by_cases h2 : n ≤ 1114111
    · by_cases h3 : 55296 ≤ n
      · by_cases h4 : n ≤ 57343
        · rw [if_neg (by omega)]
          simp only [show ¬ (((n : Nat) : Int) < ((least : Nat) : Int)) by omega, show ¬ (((n : Nat) : Int) > 1114111) by omega, show (((n : Nat) : Int) ≥ 55296) by omega, show (((n : Nat) : Int) ≤ 57343) by omega, decide_true, decide_false, cond_true, cond_false]
        · rw [if_pos (by omega)]
          simp only [show ¬ (((n : Nat) : Int) < ((least : Nat) : Int)) by omega, show ¬ (((n : Nat) : Int) > 1114111) by omega, show (((n : Nat) : Int) ≥ 55296) by omega, show ¬ (((n : Nat) : Int) ≤ 57343) by omega, decide_true, decide_false, cond_true, cond_false]
      · rw [if_pos (by omega)]
        simp only [show ¬ (((n : Nat) : Int) < ((least : Nat) : Int)) by omega, show ¬ (((n : Nat) : Int) > 1114111) by omega, show ¬ (((n : Nat) : Int) ≥ 55296) by omega, decide_true, decide_false, cond_true, cond_false]
    · rw [if_neg (by omega)]
      simp only [show ¬ (((n : Nat) : Int) < ((least : Nat) : Int)) by omega, show (((n : Nat) : Int) > 1114111) by omega, decide_true, decide_false, cond_true, cond_false]
theorem more_some {s : List UInt8} {i k : Nat} {b : UInt8} (h : (s.drop i)[k]? = some b) (hi : i + k < 2 ^ 60) : h404 s (iadd .i64 (i : Int) (k : Int)) = some (if ctb b then (((b.toNat - 128 : Nat) : Int), true) else (0, false)) := by
  rw [addn (by omega)]
  rw [List.getElem?_drop] at h
  exact h404_some h
theorem more_none {s : List UInt8} {i k : Nat} (h : (s.drop i)[k]? = none) (hi : i + k < 2 ^ 60) : h404 s (iadd .i64 (i : Int) (k : Int)) = some (0, false) := by
  rw [addn (by omega)]
  rw [List.getElem?_drop] at h
  exact h404_none (by simpa using h)
theorem m64 {n x : Nat} (h : 64 * n + x < 2 ^ 60) : iadd .i64 (imul .i64 (64 : Int) (n : Int)) (x : Int) = ((64 * n + x : Nat) : Int) := by
  rw [show (64 : Int) = ((64 : Nat) : Int) from rfl, muln (by omega), addn (by omega)]
/-- a round of the loop over the bytes that go on -/
theorem L402_go {N : Nat} (q : Int → Int → Int → Option (Int × Int)) (s : List UInt8) (i n k need : Nat) (least : Int) (m : Nat) (b : UInt8) (h : (s.drop i)[k]? = some b) (hi : i + k < 2 ^ 60) (hn : 64 * n + 256 < 2 ^ 60) (hk : k ≤ need) :
    L402_0 h404 N q (m + 1) s (i : Int) (need : Int) (n : Int) least (k : Int) = (if ctb b then L402_0 h404 N q m s (i : Int) (need : Int) ((64 * n + (b.toNat - 128) : Nat) : Int) least ((k + 1 : Nat) : Int) else some (0, 0)) := by
  have hb := UInt8.toNat_lt b
  simp only [L402_0, show ((k : Nat) : Int) ≤ ((need : Nat) : Int) by omega, decide_true, cond_true, more_some h hi]
  by_cases hc : ctb b
  · simp only [hc, if_true, Bool.not_true, cond_false]
    rw [m64 (by omega), up1 (by omega)]
  · simp only [hc, if_false, Bool.not_false, cond_true, Bool.false_eq_true]
theorem L402_no {N : Nat} (q : Int → Int → Int → Option (Int × Int)) (s : List UInt8) (i n k need : Nat) (least : Int) (m : Nat) (h : (s.drop i)[k]? = none) (hi : i + k < 2 ^ 60) (hk : k ≤ need) :
    L402_0 h404 N q (m + 1) s (i : Int) (need : Int) (n : Int) least (k : Int) = some (0, 0) := by
  simp only [L402_0, show ((k : Nat) : Int) ≤ ((need : Nat) : Int) by omega, decide_true, cond_true, more_none h hi, Bool.not_false]
theorem L402_end {N : Nat} (q : Int → Int → Int → Option (Int × Int)) (s : List UInt8) (i n k need : Nat) (least : Int) (m : Nat) (hk : need < k) :
    L402_0 h404 N q (m + 1) s (i : Int) (need : Int) (n : Int) least (k : Int) = q (need : Int) (n : Int) least := by
  simp only [L402_0, show ¬ (((k : Nat) : Int) ≤ ((need : Nat) : Int)) by omega, decide_false, cond_false]
def h402 (s : List UInt8) (i : Int) := p402 h404 20 s i
theorem E402 : EntOK FT XU 402 (en402 h402) := ok402 h404 E404 fun _ _ _ h => ⟨20, h⟩
/-- the document's sign: the bytes alone -/
theorem p402_is {s : List UInt8} {i : Nat} (hi : i < s.length) (hs : s.length ≤ 1000) : h402 s (i : Int) = dI (dec1 (s.drop i)) := by
  obtain ⟨b, hb⟩ : ∃ b, s[i]? = some b := ⟨s[i], List.getElem?_eq_getElem hi⟩
  have hb8 := UInt8.toNat_lt b
  have hd0 : (s.drop i)[0]? = some b := by rw [List.getElem?_drop]; exact hb
  obtain ⟨r, hr⟩ : ∃ r, s.drop i = b :: r := by
    cases hl : s.drop i with
    | nil => rw [hl] at hd0; simp at hd0
    | cons c r => rw [hl] at hd0; simp at hd0; exact ⟨r, by rw [hd0]⟩
  have g : ∀ k : Nat, (s.drop i)[k + 1]? = r[k]? := fun k => by rw [hr]; rfl
  have fF : ∀ (need n least : Int), (bif (decide (n < least)) then
 some ((0 : Int), (0 : Int))
 else
 bif (decide (n > (1114111 : Int))) then
 some ((0 : Int), (0 : Int))
 else
 bif (decide (n ≥ (55296 : Int))) then
 bif (decide (n ≤ (57343 : Int))) then
 some ((0 : Int), (0 : Int))
 else
 some (n, (iadd .i64 need (1 : Int)))
 else
 some (n, (iadd .i64 need (1 : Int)))) = fin2 n least need := fun _ _ _ => rfl
  rw [hr, dec1_cons]
  unfold h402 p402
  simp only [geti_nat, hb, wi8, fF]
  by_cases c1 : b.toNat < 128
  · simp only [show ((b.toNat : Nat) : Int) < 128 by omega, decide_true, cond_true, c1, if_true]
    rfl
  simp only [show ¬ (((b.toNat : Nat) : Int) < 128) by omega, decide_false, cond_false, c1, if_false]
  by_cases c2 : b.toNat < 192
  · simp only [show ¬ (((b.toNat : Nat) : Int) ≥ 192) by omega, show ¬ (((b.toNat : Nat) : Int) ≥ 224) by omega, show ¬ (((b.toNat : Nat) : Int) ≥ 240) by omega, decide_false, cond_false, c2, if_true]
    rfl
  simp only [show (((b.toNat : Nat) : Int) ≥ 192) by omega, decide_true, cond_true, c2, if_false]
  by_cases c3 : b.toNat < 224
  · simp only [show ((b.toNat : Nat) : Int) < 224 by omega, decide_true, cond_true, c3, if_true]
    rw [show (192 : Int) = ((192 : Nat) : Int) from rfl, subn (by omega) (by omega)]
    cases h1 : r[0]? with
    | none =>
      rw [show r = [] by cases r <;> simp at h1 ⊢]
      exact L402_no _ s i _ 1 1 _ 19 (by rw [g, h1]) (by omega) (by omega)
    | some x =>
      obtain ⟨r1, rfl⟩ : ∃ r1, r = x :: r1 := by cases r <;> simp at h1; subst h1; exact ⟨_, rfl⟩
      refine (L402_go _ s i _ 1 1 _ 19 x (by rw [g]; rfl) (by omega) (by omega) (by omega)).trans ?_
      dsimp only
      by_cases hx : ctb x
      · rw [if_pos hx, if_pos hx]
        refine (L402_end _ s i _ 2 1 _ 18 (by omega)).trans ?_
        exact fin2_is _ 128 1 (by omega)
      · rw [if_neg hx, if_neg hx]; rfl
  simp only [show ¬ (((b.toNat : Nat) : Int) < 224) by omega, decide_false, cond_false, c3, if_false, show (((b.toNat : Nat) : Int) ≥ 224) by omega, decide_true, cond_true]
  by_cases c4 : b.toNat < 240
  · simp only [show ((b.toNat : Nat) : Int) < 240 by omega, decide_true, cond_true, c4, if_true]
    rw [show (224 : Int) = ((224 : Nat) : Int) from rfl, subn (by omega) (by omega)]
    cases h1 : r[0]? with
    | none =>
      rw [show r = [] by cases r <;> simp at h1 ⊢]
      exact L402_no _ s i _ 1 2 _ 19 (by rw [g, h1]) (by omega) (by omega)
    | some x =>
      obtain ⟨r1, rfl⟩ : ∃ r1, r = x :: r1 := by cases r <;> simp at h1; subst h1; exact ⟨_, rfl⟩
      have hx8 := UInt8.toNat_lt x
      refine (L402_go _ s i _ 1 2 _ 19 x (by rw [g]; rfl) (by omega) (by omega) (by omega)).trans ?_
      cases h2 : r1[0]? with
      | none =>
        rw [show r1 = [] by cases r1 <;> simp at h2 ⊢]
        rw [show r1 = [] by cases r1 <;> simp at h2 ⊢] at g
        have hz := L402_no (N := 20) (fun (y12 : Int) (y13 : Int) (y14 : Int) => fin2 y13 y14 y12) s i (64 * (b.toNat - 224) + (x.toNat - 128)) 2 2 ((2048 : Nat) : Int) 18 (by rw [g]; rfl) (by omega) (by omega)
        by_cases hx : ctb x
        · rw [if_pos hx]; exact hz
        · rw [if_neg hx]; rfl
      | some y =>
        obtain ⟨r2, rfl⟩ : ∃ r2, r1 = y :: r2 := by cases r1 <;> simp at h2; subst h2; exact ⟨_, rfl⟩
        dsimp only
        have hz := L402_go (N := 20) (fun (y12 : Int) (y13 : Int) (y14 : Int) => fin2 y13 y14 y12) s i (64 * (b.toNat - 224) + (x.toNat - 128)) 2 2 ((2048 : Nat) : Int) 18 y (by rw [g]; rfl) (by omega) (by omega) (by omega)
        by_cases hx : ctb x
        · rw [if_pos hx]
          refine hz.trans ?_
          by_cases hy : ctb y
          · rw [if_pos hy, if_pos (by simp [hx, hy])]
            refine (L402_end _ s i _ 3 2 _ 17 (by omega)).trans ?_
            exact fin2_is _ 2048 2 (by omega)
          · rw [if_neg hy, if_neg (by simp [hy])]; rfl
        · rw [if_neg hx, if_neg (by simp [hx])]; rfl
  simp only [show ¬ (((b.toNat : Nat) : Int) < 240) by omega, decide_false, cond_false, c4, if_false, show (((b.toNat : Nat) : Int) ≥ 240) by omega, decide_true, cond_true]
  by_cases c5 : b.toNat < 248
  · simp only [show ((b.toNat : Nat) : Int) < 248 by omega, decide_true, cond_true, c5, if_true]
    rw [show (240 : Int) = ((240 : Nat) : Int) from rfl, subn (by omega) (by omega)]
    cases h1 : r[0]? with
    | none =>
      rw [show r = [] by cases r <;> simp at h1 ⊢]
      exact L402_no _ s i _ 1 3 _ 19 (by rw [g, h1]) (by omega) (by omega)
    | some x =>
      obtain ⟨r1, rfl⟩ : ∃ r1, r = x :: r1 := by cases r <;> simp at h1; subst h1; exact ⟨_, rfl⟩
      have hx8 := UInt8.toNat_lt x
      refine (L402_go _ s i _ 1 3 _ 19 x (by rw [g]; rfl) (by omega) (by omega) (by omega)).trans ?_
      cases h2 : r1[0]? with
      | none =>
        rw [show r1 = [] by cases r1 <;> simp at h2 ⊢]
        rw [show r1 = [] by cases r1 <;> simp at h2 ⊢] at g
        have hz := L402_no (N := 20) (fun (y12 : Int) (y13 : Int) (y14 : Int) => fin2 y13 y14 y12) s i (64 * (b.toNat - 240) + (x.toNat - 128)) 2 3 ((65536 : Nat) : Int) 18 (by rw [g]; rfl) (by omega) (by omega)
        by_cases hx : ctb x
        · rw [if_pos hx]; exact hz
        · rw [if_neg hx]; rfl
      | some y =>
        obtain ⟨r2, rfl⟩ : ∃ r2, r1 = y :: r2 := by cases r1 <;> simp at h2; subst h2; exact ⟨_, rfl⟩
        have hy8 := UInt8.toNat_lt y
        have hz := L402_go (N := 20) (fun (y12 : Int) (y13 : Int) (y14 : Int) => fin2 y13 y14 y12) s i (64 * (b.toNat - 240) + (x.toNat - 128)) 2 3 ((65536 : Nat) : Int) 18 y (by rw [g]; rfl) (by omega) (by omega) (by omega)
        cases h3 : r2[0]? with
        | none =>
          rw [show r2 = [] by cases r2 <;> simp at h3 ⊢]
          rw [show r2 = [] by cases r2 <;> simp at h3 ⊢] at g
          have hz3 := L402_no (N := 20) (fun (y12 : Int) (y13 : Int) (y14 : Int) => fin2 y13 y14 y12) s i (64 * (64 * (b.toNat - 240) + (x.toNat - 128)) + (y.toNat - 128)) 3 3 ((65536 : Nat) : Int) 17 (by rw [g]; rfl) (by omega) (by omega)
          by_cases hx : ctb x
          · rw [if_pos hx]
            refine hz.trans ?_
            by_cases hy : ctb y
            · rw [if_pos hy]; exact hz3
            · rw [if_neg hy]; rfl
          · rw [if_neg hx]; rfl
        | some z =>
          obtain ⟨r3, rfl⟩ : ∃ r3, r2 = z :: r3 := by cases r2 <;> simp at h3; subst h3; exact ⟨_, rfl⟩
          dsimp only
          have hz3 := L402_go (N := 20) (fun (y12 : Int) (y13 : Int) (y14 : Int) => fin2 y13 y14 y12) s i (64 * (64 * (b.toNat - 240) + (x.toNat - 128)) + (y.toNat - 128)) 3 3 ((65536 : Nat) : Int) 17 z (by rw [g]; rfl) (by omega) (by omega) (by omega)
          by_cases hx : ctb x
          · rw [if_pos hx]
            refine hz.trans ?_
            by_cases hy : ctb y
            · rw [if_pos hy]
              refine hz3.trans ?_
              by_cases hzz : ctb z
              · rw [if_pos hzz, if_pos (by simp [hx, hy, hzz])]
                refine (L402_end _ s i _ 4 3 _ 16 (by omega)).trans ?_
                exact fin2_is _ 65536 3 (by omega)
              · rw [if_neg hzz, if_neg (by simp [hzz])]; rfl
            · rw [if_neg hy, if_neg (by simp [hy])]; rfl
          · rw [if_neg hx, if_neg (by simp [hx])]; rfl
  · simp only [show ¬ (((b.toNat : Nat) : Int) < 248) by omega, decide_false, cond_false, c5, if_false]
    rfl
end Go.Proofs.YtchoafdpckknmaaDoorE
