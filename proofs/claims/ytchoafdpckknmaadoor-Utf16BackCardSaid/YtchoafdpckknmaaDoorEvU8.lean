/- Signs of a text, plain; words of eight bytes. -/
import Derived.Test.YtchoafdpckknmaaDoorEvMa
namespace Go.Proofs.YtchoafdpckknmaaDoorE
open Go
set_option linter.unusedSimpArgs false
set_option linter.unusedVariables false
set_option maxRecDepth 4000
def ctb (b : UInt8) : Bool := decide (128 ≤ b.toNat) && decide (b.toNat ≤ 191)
def fin1 (n least w : Nat) : Option (Nat × Nat) := if least ≤ n ∧ n ≤ 1114111 ∧ ¬ (55296 ≤ n ∧ n ≤ 57343) then some (n, w) else none
/-- a text's first sign, and how many bytes it has -/
def dec1 : List UInt8 → Option (Nat × Nat)
  | [] => none
  | b :: r =>
    if b.toNat < 128 then some (b.toNat, 1)
    else if b.toNat < 192 then none
    else if b.toNat < 224 then
      match r with
      | x :: _ => if ctb x then fin1 (64 * (b.toNat - 192) + (x.toNat - 128)) 128 2 else none
      | _ => none
    else if b.toNat < 240 then
      match r with
      | x :: y :: _ => if ctb x && ctb y then fin1 (64 * (64 * (b.toNat - 224) + (x.toNat - 128)) + (y.toNat - 128)) 2048 3 else none
      | _ => none
    else if b.toNat < 248 then
      match r with
      | x :: y :: z :: _ => if ctb x && ctb y && ctb z then fin1 (64 * (64 * (64 * (b.toNat - 240) + (x.toNat - 128)) + (y.toNat - 128)) + (z.toNat - 128)) 65536 4 else none
      | _ => none
    else none
theorem dec1_cons (b : UInt8) (r : List UInt8) : dec1 (b :: r) =
   (if b.toNat < 128 then some (b.toNat, 1)
    else if b.toNat < 192 then none
    else if b.toNat < 224 then
      match r with
      | x :: _ => if ctb x then fin1 (64 * (b.toNat - 192) + (x.toNat - 128)) 128 2 else none
      | _ => none
    else if b.toNat < 240 then
      match r with
      | x :: y :: _ => if ctb x && ctb y then fin1 (64 * (64 * (b.toNat - 224) + (x.toNat - 128)) + (y.toNat - 128)) 2048 3 else none
      | _ => none
    else if b.toNat < 248 then
      match r with
      | x :: y :: z :: _ => if ctb x && ctb y && ctb z then fin1 (64 * (64 * (64 * (b.toNat - 240) + (x.toNat - 128)) + (y.toNat - 128)) + (z.toNat - 128)) 65536 4 else none
      | _ => none
    else none) := rfl
theorem fin1_some {n least w a b : Nat} (h : fin1 n least w = some (a, b)) : a = n ∧ b = w ∧ least ≤ n ∧ n ≤ 1114111 ∧ ¬ (55296 ≤ n ∧ n ≤ 57343) := by
  unfold fin1 at h
  split at h <;> try (cases h; done)
  rename_i hc
  simp only [Option.some.injEq, Prod.mk.injEq] at h
  exact ⟨h.1.symm, h.2.symm, hc⟩
theorem dec1_some {l : List UInt8} {n w : Nat} (h : dec1 l = some (n, w)) : 1 ≤ w ∧ w ≤ 4 ∧ w ≤ l.length ∧ n ≤ 1114111 ∧ ¬ (55296 ≤ n ∧ n ≤ 57343) := by
  cases l with
  | nil => cases h
  | cons b r =>
    rw [dec1_cons] at h
    split at h
    · simp only [Option.some.injEq, Prod.mk.injEq] at h
      obtain ⟨rfl, rfl⟩ := h
      simp; omega
    split at h <;> try (cases h; done)
    split at h
    · split at h <;> try (cases h; done)
      split at h <;> try (cases h; done)
      obtain ⟨rfl, rfl, h1, h2, h3⟩ := fin1_some h
      simp; omega
    split at h
    · split at h <;> try (cases h; done)
      split at h <;> try (cases h; done)
      obtain ⟨rfl, rfl, h1, h2, h3⟩ := fin1_some h
      simp; omega
    split at h <;> try (cases h; done)
    split at h <;> try (cases h; done)
    split at h <;> try (cases h; done)
    obtain ⟨rfl, rfl, h1, h2, h3⟩ := fin1_some h
    simp; omega
def signs : List UInt8 → Option (List Nat)
  | [] => some []
  | b :: r =>
    match dec1 (b :: r) with
    | none => none
    | some (n, w) => (signs (r.drop (w - 1))).map (n :: ·)
termination_by l => l.length
decreasing_by simp; omega
theorem signs_cons (b : UInt8) (r : List UInt8) : signs (b :: r) = (match dec1 (b :: r) with | none => none | some (n, w) => (signs (r.drop (w - 1))).map (n :: ·)) := by rw [signs]
theorem signs_asc {b : UInt8} {r : List UInt8} (h : b.toNat < 128) : signs (b :: r) = (signs r).map (b.toNat :: ·) := by
  rw [signs_cons]
  simp [dec1, h]
def valid (l : List UInt8) : Bool := (signs l).isSome
theorem valid_nil : valid [] = true := by unfold valid; rw [signs]; rfl
theorem valid_asc {b : UInt8} {r : List UInt8} (h : b.toNat < 128) : valid (b :: r) = valid r := by
  unfold valid; rw [signs_asc h]; cases signs r <;> rfl
theorem valid_skip : ∀ (k : Nat) (l : List UInt8), (∀ x ∈ l.take k, x.toNat < 128) → valid l = valid (l.drop k)
  | 0, l, _ => by simp
  | k + 1, [], _ => by simp
  | k + 1, b :: r, h => by
    rw [valid_asc (h b (by simp))]
    exact valid_skip k r (fun x hx => h x (by simp [hx]))
theorem valid_step {b : UInt8} {r : List UInt8} : valid (b :: r) = (match dec1 (b :: r) with | none => false | some (n, w) => valid (r.drop (w - 1))) := by
  unfold valid
  rw [signs_cons]
  cases dec1 (b :: r) with
  | none => rfl
  | some p => obtain ⟨n, w⟩ := p; simp
/-- the model's sign at a place -/
theorem decode_of {s : List UInt8} {pos n w : Nat} (h : dec1 (s.drop pos) = some (n, w)) : Utf8.decode ⟨s.toArray⟩ pos = (n, w) := by
  have hw := dec1_some h
  have get : ∀ k x, (s.drop pos)[k]? = some x → (ByteArray.mk s.toArray).get! (pos + k) = x ∧ pos + k < s.length := fun k x hx => by
    rw [List.getElem?_drop] at hx
    have hlt := (List.getElem?_eq_some_iff.1 hx).1
    refine ⟨?_, hlt⟩
    show s.toArray[pos + k]! = x
    rw [getElem!_pos s.toArray (pos + k) (by simpa using hlt)]
    simpa using (List.getElem?_eq_some_iff.1 hx).2
  generalize hl : s.drop pos = l at *
  have hsz : (ByteArray.mk s.toArray).size = s.length := by show s.toArray.size = _; simp
  cases l with
  | nil => cases h
  | cons b r =>
    obtain ⟨g0, g0'⟩ := get 0 b rfl
    unfold Utf8.decode
    simp only [g0, hsz]
    rw [dec1_cons] at h
    split at h
    · rename_i hb
      simp only [Option.some.injEq, Prod.mk.injEq] at h
      obtain ⟨rfl, rfl⟩ := h
      rw [if_pos (by simpa using hb)]
    rename_i hb0
    split at h <;> try (cases h; done)
    split at h
    · split at h <;> try (cases h; done)
      rename_i x r'
      split at h <;> try (cases h; done)
      rename_i hc
      obtain ⟨rfl, rfl, h1, h2, h3⟩ := fin1_some h
      obtain ⟨g1, g1'⟩ := get 1 x rfl
      simp only [ctb, Bool.and_eq_true, decide_eq_true_eq] at hc
      simp only [g1]
      rw [if_neg (by omega), if_pos (by simp; omega), if_pos (by omega)]
      simp only [Prod.mk.injEq, and_true]
      omega
    split at h
    · split at h <;> try (cases h; done)
      rename_i x y r'
      split at h <;> try (cases h; done)
      rename_i hc
      obtain ⟨rfl, rfl, h1, h2, h3⟩ := fin1_some h
      obtain ⟨g1, g1'⟩ := get 1 x rfl
      obtain ⟨g2, g2'⟩ := get 2 y rfl
      simp only [ctb, Bool.and_eq_true, decide_eq_true_eq] at hc
      simp only [g1, g2]
      rw [if_neg (by omega), if_neg (by simp; omega), if_pos (by simp; omega), if_pos (by simp [Utf8.valid]; omega)]
      simp only [Prod.mk.injEq, and_true]
      omega
    split at h <;> try (cases h; done)
    split at h <;> try (cases h; done)
    rename_i x y z r'
    split at h <;> try (cases h; done)
    rename_i hc
    obtain ⟨rfl, rfl, h1, h2, h3⟩ := fin1_some h
    obtain ⟨g1, g1'⟩ := get 1 x rfl
    obtain ⟨g2, g2'⟩ := get 2 y rfl
    obtain ⟨g3, g3'⟩ := get 3 z rfl
    simp only [ctb, Bool.and_eq_true, decide_eq_true_eq] at hc
    simp only [g1, g2, g3]
    rw [if_neg (by omega), if_neg (by simp; omega), if_neg (by simp; omega), if_pos (by simp; omega), if_pos (by simp [Utf8.valid]; omega)]
    simp only [Prod.mk.injEq, and_true]
    omega
abbrev mk80 : Nat := 9259542123273814144
def wv (a b c d e f g h : Nat) : Nat := ((((((a ||| b * 2 ^ 8 % 2 ^ 64) ||| c * 2 ^ 16 % 2 ^ 64) ||| d * 2 ^ 24 % 2 ^ 64) ||| e * 2 ^ 32 % 2 ^ 64) ||| f * 2 ^ 40 % 2 ^ 64) ||| g * 2 ^ 48 % 2 ^ 64) ||| h * 2 ^ 56 % 2 ^ 64
theorem bit_of {x k : Nat} (h : x &&& mk80 = 0) (hk : mk80.testBit k = true) : x.testBit k = false := by
  have := congrArg (fun n => n.testBit k) h
  simp only [Nat.testBit_and, Nat.zero_testBit, hk, Bool.and_true] at this
  exact this
theorem wv_asc {a b c d e f g h : Nat} (ha : a < 256) (hb : b < 256) (hc : c < 256) (hd : d < 256) (he : e < 256) (hf : f < 256) (hg : g < 256) (hh : h < 256) (hz : wv a b c d e f g h &&& mk80 = 0) :
    a < 128 ∧ b < 128 ∧ c < 128 ∧ d < 128 ∧ e < 128 ∧ f < 128 ∧ g < 128 ∧ h < 128 := by
  have k7 := bit_of hz (k := 7) (by decide)
  have k15 := bit_of hz (k := 15) (by decide)
  have k23 := bit_of hz (k := 23) (by decide)
  have k31 := bit_of hz (k := 31) (by decide)
  have k39 := bit_of hz (k := 39) (by decide)
  have k47 := bit_of hz (k := 47) (by decide)
  have k55 := bit_of hz (k := 55) (by decide)
  have k63 := bit_of hz (k := 63) (by decide)
  unfold wv at k7 k15 k23 k31 k39 k47 k55 k63
  simp only [Nat.testBit_or, Bool.or_eq_false_iff] at k7 k15 k23 k31 k39 k47 k55 k63
  simp only [Nat.testBit_eq_decide_div_mod_eq, decide_eq_false_iff_not] at k7 k15 k23 k31 k39 k47 k55 k63
  refine ⟨?_, ?_, ?_, ?_, ?_, ?_, ?_, ?_⟩
  · have := k7.1.1.1.1.1.1.1; omega
  · have := k15.1.1.1.1.1.1.2; omega
  · have := k23.1.1.1.1.1.2; omega
  · have := k31.1.1.1.1.2; omega
  · have := k39.1.1.1.2; omega
  · have := k47.1.1.2; omega
  · have := k55.1.2; omega
  · have := k63.2; omega
theorem wv_lt {a b c d e f g h : Nat} (ha : a < 256) : wv a b c d e f g h < 2 ^ 64 := by
  unfold wv
  have : ∀ n, n % 2 ^ 64 < 2 ^ 64 := fun n => Nat.mod_lt _ (by decide)
  exact Nat.or_lt_two_pow (Nat.or_lt_two_pow (Nat.or_lt_two_pow (Nat.or_lt_two_pow (Nat.or_lt_two_pow (Nat.or_lt_two_pow (Nat.or_lt_two_pow (by omega) (this _)) (this _)) (this _)) (this _)) (this _)) (this _)) (this _)
theorem or_asc {a b : Nat} (h : (a ||| b) &&& mk80 = 0) : a &&& mk80 = 0 ∧ b &&& mk80 = 0 := by
  rw [Nat.and_or_distrib_right] at h
  exact Nat.or_eq_zero_iff.1 h
/-- a word of a text's first eight bytes -/
def wd (l : List UInt8) : Nat := match l with
  | a :: b :: c :: d :: e :: f :: g :: h :: _ => wv a.toNat b.toNat c.toNat d.toNat e.toNat f.toNat g.toNat h.toNat
  | _ => 0
theorem wd_lt (l : List UInt8) : wd l < 2 ^ 64 := by
  unfold wd
  split
  · exact wv_lt (UInt8.toNat_lt _)
  · decide
theorem wd_asc {l : List UInt8} (h8 : 8 ≤ l.length) (h : wd l &&& mk80 = 0) : ∀ x ∈ l.take 8, x.toNat < 128 := by
  match l, h8 with
  | a :: b :: c :: d :: e :: f :: g :: i :: r, _ =>
    obtain ⟨h1, h2, h3, h4, h5, h6, h7, h8⟩ := wv_asc (UInt8.toNat_lt a) (UInt8.toNat_lt b) (UInt8.toNat_lt c) (UInt8.toNat_lt d) (UInt8.toNat_lt e) (UInt8.toNat_lt f) (UInt8.toNat_lt g) (UInt8.toNat_lt i) h
    intro x hx
    simp only [List.take_succ_cons, List.take_zero, List.mem_cons, List.not_mem_nil, or_false] at hx
    rcases hx with rfl | rfl | rfl | rfl | rfl | rfl | rfl | rfl <;> assumption
theorem wrap8 (b : UInt8) : IntKind.wrap .u64 ((b.toNat : Nat) : Int) = ((b.toNat : Nat) : Int) := wrap_u .u64 rfl (by omega) (by have := UInt8.toNat_lt b; simp [IntKind.bits]; omega)
theorem word_is (a b c d e f g h : UInt8) : (ior .u64 (ior .u64 (ior .u64 (ior .u64 (ior .u64 (ior .u64 (ior .u64 (IntKind.wrap .u64 ((UInt8.toNat a : Nat) : Int)) (ishl .u64 (IntKind.wrap .u64 ((UInt8.toNat b : Nat) : Int)) (8 : Int))) (ishl .u64 (IntKind.wrap .u64 ((UInt8.toNat c : Nat) : Int)) (16 : Int))) (ishl .u64 (IntKind.wrap .u64 ((UInt8.toNat d : Nat) : Int)) (24 : Int))) (ishl .u64 (IntKind.wrap .u64 ((UInt8.toNat e : Nat) : Int)) (32 : Int))) (ishl .u64 (IntKind.wrap .u64 ((UInt8.toNat f : Nat) : Int)) (40 : Int))) (ishl .u64 (IntKind.wrap .u64 ((UInt8.toNat g : Nat) : Int)) (48 : Int))) (ishl .u64 (IntKind.wrap .u64 ((UInt8.toNat h : Nat) : Int)) (56 : Int)))
    = ((wv a.toNat b.toNat c.toNat d.toNat e.toNat f.toNat g.toNat h.toNat : Nat) : Int) := by
  have m : ∀ n, n % 2 ^ 64 < 2 ^ 64 := fun n => Nat.mod_lt _ (by decide)
  have l8 : a.toNat < 2 ^ 64 := by have := UInt8.toNat_lt a; omega
  have sh : ∀ (x : UInt8) (k : Nat), k ≤ 64 → ishl .u64 ((x.toNat : Nat) : Int) (k : Int) = ((x.toNat * 2 ^ k % 2 ^ 64 : Nat) : Int) := fun x k hk => ishl_u .u64 rfl x.toNat k hk
  have o : ∀ x y : Nat, x < 2 ^ 64 → y < 2 ^ 64 → ior .u64 (x : Int) (y : Int) = ((x ||| y : Nat) : Int) := fun x y hx hy => ior_u .u64 rfl x y hx hy
  simp only [wrap8]
  rw [show (8 : Int) = ((8 : Nat) : Int) from rfl, show (16 : Int) = ((16 : Nat) : Int) from rfl, show (24 : Int) = ((24 : Nat) : Int) from rfl, show (32 : Int) = ((32 : Nat) : Int) from rfl, show (40 : Int) = ((40 : Nat) : Int) from rfl, show (48 : Int) = ((48 : Nat) : Int) from rfl, show (56 : Int) = ((56 : Nat) : Int) from rfl]
  rw [sh b 8 (by omega), sh c 16 (by omega), sh d 24 (by omega), sh e 32 (by omega), sh f 40 (by omega), sh g 48 (by omega), sh h 56 (by omega)]
  have q1 := Nat.or_lt_two_pow l8 (m (b.toNat * 2 ^ 8))
  have q2 := Nat.or_lt_two_pow q1 (m (c.toNat * 2 ^ 16))
  have q3 := Nat.or_lt_two_pow q2 (m (d.toNat * 2 ^ 24))
  have q4 := Nat.or_lt_two_pow q3 (m (e.toNat * 2 ^ 32))
  have q5 := Nat.or_lt_two_pow q4 (m (f.toNat * 2 ^ 40))
  have q6 := Nat.or_lt_two_pow q5 (m (g.toNat * 2 ^ 48))
  rw [o _ _ l8 (m _), o _ _ q1 (m _), o _ _ q2 (m _), o _ _ q3 (m _), o _ _ q4 (m _), o _ _ q5 (m _), o _ _ q6 (m _)]
  rfl
theorem wrap_i32 {x : Int} (h0 : -2 ^ 31 ≤ x) (h : x < 2 ^ 31) : IntKind.i32.wrap x = x := by
  unfold IntKind.wrap
  simp [IntKind.signed, IntKind.bits]
  omega
theorem iand_32 {a b : Nat} (ha : a < 2 ^ 31) (hb : b < 2 ^ 31) : iand .i32 (a : Int) (b : Int) = ((a &&& b : Nat) : Int) := by
  unfold iand
  rw [show IntKind.i32.bits = 32 from rfl, BitVec.toNat_and, ofInt_nat 32 a (by omega), ofInt_nat 32 b (by omega)]
  exact wrap_i32 (by omega) (by exact_mod_cast Nat.and_lt_two_pow a hb)
theorem ior_32 {a b : Nat} (ha : a < 2 ^ 31) (hb : b < 2 ^ 31) : ior .i32 (a : Int) (b : Int) = ((a ||| b : Nat) : Int) := by
  unfold ior
  rw [show IntKind.i32.bits = 32 from rfl, BitVec.toNat_or, ofInt_nat 32 a (by omega), ofInt_nat 32 b (by omega)]
  exact wrap_i32 (by omega) (by exact_mod_cast Nat.or_lt_two_pow ha hb)
theorem or_add {a m : Nat} (h : m < 1024) : a * 1024 ||| m = a * 1024 + m := by
  have := Nat.shiftLeft_add_eq_or_of_lt (i := 10) h a
  rw [Nat.shiftLeft_eq] at this
  exact this.symm
theorem w16n {n : Nat} (h : n < 65536) : IntKind.wrap .u16 (n : Int) = (n : Int) := wrap_u .u16 rfl (by omega) (by simp [IntKind.bits]; omega)
theorem hi_is {n : Nat} (h : 65536 ≤ n) (h2 : n ≤ 1114111) : IntKind.wrap .u16 (ior .i32 (55296 : Int) (ishr .i32 (isub .i32 ((n : Nat) : Int) (65536 : Int)) (10 : Int))) = ((55296 + (n - 65536) / 1024 : Nat) : Int) := by
  have e1 : isub .i32 ((n : Nat) : Int) (65536 : Int) = ((n - 65536 : Nat) : Int) := by
    unfold isub; rw [wrap_i32 (by omega) (by omega)]; omega
  rw [e1, show (10 : Int) = ((10 : Nat) : Int) from rfl, ishr_u .i32 _ 10 (by decide), show (55296 : Int) = ((54 * 1024 : Nat) : Int) from rfl, ior_32 (by omega) (by omega), or_add (by omega), w16n (by omega)]
theorem lo_is {n : Nat} (h : 65536 ≤ n) (h2 : n ≤ 1114111) : IntKind.wrap .u16 (ior .i32 (56320 : Int) (iand .i32 (isub .i32 ((n : Nat) : Int) (65536 : Int)) (1023 : Int))) = ((56320 + (n - 65536) % 1024 : Nat) : Int) := by
  have e1 : isub .i32 ((n : Nat) : Int) (65536 : Int) = ((n - 65536 : Nat) : Int) := by
    unfold isub; rw [wrap_i32 (by omega) (by omega)]; omega
  have e2 : (n - 65536) &&& 1023 = (n - 65536) % 1024 := Nat.and_two_pow_sub_one_eq_mod (n - 65536) 10
  rw [e1, show (1023 : Int) = ((1023 : Nat) : Int) from rfl, iand_32 (by omega) (by omega), e2, show (56320 : Int) = ((55 * 1024 : Nat) : Int) from rfl, ior_32 (by omega) (by omega), or_add (by omega), w16n (by omega)]
/-! ### one sign after the other -/
theorem signs_end {s : List UInt8} {pos : Nat} (h : s.length ≤ pos) : signs (s.drop pos) = some [] := by
  rw [List.drop_of_length_le h, signs]
theorem signs_at {s : List UInt8} {pos : Nat} (h : pos < s.length) : signs (s.drop pos) = (match dec1 (s.drop pos) with | none => none | some (n, w) => (signs (s.drop (pos + w))).map (n :: ·)) := by
  cases hl : s.drop pos with
  | nil => have := congrArg List.length hl; simp at this; omega
  | cons b r =>
    rw [signs_cons]
    cases hd : dec1 (b :: r) with
    | none => rfl
    | some p =>
      obtain ⟨n, w⟩ := p
      have hw := dec1_some hd
      have : r.drop (w - 1) = s.drop (pos + w) := by
        rw [← List.drop_drop, hl, show w = (w - 1) + 1 by omega, List.drop_succ_cons]; rfl
      simp only [this]
theorem signs_step {s : List UInt8} {pos n : Nat} {l : List Nat} (h : signs (s.drop pos) = some (n :: l)) : ∃ w, dec1 (s.drop pos) = some (n, w) ∧ signs (s.drop (pos + w)) = some l ∧ pos + w ≤ s.length ∧ pos < s.length ∧ 1 ≤ w ∧ n ≤ 1114111 ∧ ¬ (55296 ≤ n ∧ n ≤ 57343) := by
  have hp : pos < s.length := by
    rcases Nat.lt_or_ge pos s.length with h1 | h1
    · exact h1
    · rw [signs_end h1] at h; simp at h
  rw [signs_at hp] at h
  cases hd : dec1 (s.drop pos) with
  | none => rw [hd] at h; cases h
  | some p =>
    obtain ⟨m, w⟩ := p
    rw [hd] at h
    have hw := dec1_some hd
    simp only [Option.map_eq_some_iff, List.cons.injEq] at h
    obtain ⟨l', h1, rfl, rfl⟩ := h
    rw [List.length_drop] at hw
    exact ⟨w, rfl, h1, by omega, hp, hw.1, hw.2.2.2.1, hw.2.2.2.2⟩
theorem signs_nil {s : List UInt8} {pos : Nat} (h : signs (s.drop pos) = some []) : s.length ≤ pos := by
  rcases Nat.lt_or_ge pos s.length with h1 | h1
  · rw [signs_at h1] at h
    split at h
    · cases h
    · simp at h
  · exact h1
theorem signs_len : ∀ {l : List Nat} {s : List UInt8} {pos : Nat}, signs (s.drop pos) = some l → pos ≤ s.length → l.length ≤ s.length - pos
  | [], s, pos, _, _ => by simp
  | n :: l, s, pos, h, hp => by
    obtain ⟨w, _, h2, h3, h4, h5, _⟩ := signs_step h
    have := signs_len h2 h3
    simp; omega
/-- a text's units, and their bytes -/
def unitsOf (l : List Nat) : List Nat := l.flatMap fun n => if n < 65536 then [n] else [55296 + (n - 65536) / 1024, 56320 + (n - 65536) % 1024]
def layOf (l : List Nat) : List Nat := l.flatMap fun n => [n % 256, n / 256 % 256]
theorem unitsOf_cons (n : Nat) (l : List Nat) : unitsOf (n :: l) = (if n < 65536 then [n] else [55296 + (n - 65536) / 1024, 56320 + (n - 65536) % 1024]) ++ unitsOf l := rfl
theorem layOf_cons (n : Nat) (l : List Nat) : layOf (n :: l) = [n % 256, n / 256 % 256] ++ layOf l := rfl
theorem layOf_len : ∀ (l : List Nat), (layOf l).length = 2 * l.length
  | [] => rfl
  | n :: l => by rw [layOf_cons, List.length_append, layOf_len l]; simp; omega
theorem unitsOf_len : ∀ (l : List Nat), (unitsOf l).length ≤ 2 * l.length
  | [] => by simp [unitsOf]
  | n :: l => by
    have := unitsOf_len l
    rw [unitsOf_cons, List.length_append]
    split <;> simp <;> omega
end Go.Proofs.YtchoafdpckknmaaDoorE
