/- Texts: what is laid is parsed, what is parsed is laid: plain lists. -/
import Derived.Test.YtchoafdpckknmaaDoorEvUc
import Derived.Test.YtchoafdpckknmaaDoorEvPx
import Derived.KernelRfl
namespace Go.Proofs.YtchoafdpckknmaaDoorE
open Go
set_option linter.unusedSimpArgs false
set_option linter.unusedVariables false
set_option maxRecDepth 4000
/-- what may be a sign -/
def sc (n : Nat) : Prop := n ≤ 1114111 ∧ ¬ (55296 ≤ n ∧ n ≤ 57343)
abbrev b8 (n : Nat) : UInt8 := UInt8.ofNat n
theorem b8_nat {n : Nat} (h : n < 256) : (b8 n).toNat = n := by
  show (UInt8.ofNat n).toNat = n
  rw [UInt8.toNat_ofNat', Nat.mod_eq_of_lt (by simpa using h)]
theorem b8_of (b : UInt8) : b8 b.toNat = b := UInt8.ofNat_toNat
/-- a sign's bytes -/
def ecR (n : Nat) : List UInt8 := Go.Lib.encodeRune (n : Int)
theorem i8 (n : Nat) : ((n : Int)).toNat.toUInt8 = b8 n := rfl
theorem ecR_1 {n : Nat} (h : n < 128) : ecR n = [b8 n] := by
  unfold ecR Go.Lib.encodeRune
  rw [Go.Lib.encodeRuneZ_one (by omega) (by omega)]
  rfl
theorem ecR_2 {n : Nat} (h : 128 ≤ n) (h2 : n < 2048) : ecR n = [b8 (192 + n / 64), b8 (128 + n % 64)] := by
  unfold ecR Go.Lib.encodeRune
  rw [Go.Lib.encodeRuneZ_two (by omega) (by omega), show (192 : Int) + (n : Int) / 64 = ((192 + n / 64 : Nat) : Int) by omega, show (128 : Int) + (n : Int) % 64 = ((128 + n % 64 : Nat) : Int) by omega]
  rfl
theorem ecR_3 {n : Nat} (h : 2048 ≤ n) (h2 : n < 65536) (hs : sc n) : ecR n = [b8 (224 + n / 4096), b8 (128 + n / 64 % 64), b8 (128 + n % 64)] := by
  unfold ecR Go.Lib.encodeRune
  have := hs.2
  rw [Go.Lib.encodeRuneZ_three (by omega), show (224 : Int) + (n : Int) / 4096 = ((224 + n / 4096 : Nat) : Int) by omega, show (128 : Int) + (n : Int) / 64 % 64 = ((128 + n / 64 % 64 : Nat) : Int) by omega, show (128 : Int) + (n : Int) % 64 = ((128 + n % 64 : Nat) : Int) by omega]
  rfl
theorem ecR_4 {n : Nat} (h : 65536 ≤ n) (hs : sc n) : ecR n = [b8 (240 + n / 262144), b8 (128 + n / 4096 % 64), b8 (128 + n / 64 % 64), b8 (128 + n % 64)] := by
  unfold ecR Go.Lib.encodeRune
  have := hs.1
  rw [Go.Lib.encodeRuneZ_four (by omega) (by omega), show (240 : Int) + (n : Int) / 262144 = ((240 + n / 262144 : Nat) : Int) by omega, show (128 : Int) + (n : Int) / 4096 % 64 = ((128 + n / 4096 % 64 : Nat) : Int) by omega, show (128 : Int) + (n : Int) / 64 % 64 = ((128 + n / 64 % 64 : Nat) : Int) by omega, show (128 : Int) + (n : Int) % 64 = ((128 + n % 64 : Nat) : Int) by omega]
  rfl
theorem ctb8 {n : Nat} (h : n < 64) : ctb (b8 (128 + n)) = true := by
  rw [ctb_is, b8_nat (by omega)]; omega
/-- a sign's bytes are read as the sign -/
theorem dec1_ec {n : Nat} (h : sc n) (y : List UInt8) : dec1 (ecR n ++ y) = some (n, (ecR n).length) := by
  have hs1 := h.1
  have hs2 := h.2
  by_cases h1 : n < 128
  · rw [ecR_1 h1]
    show dec1 (b8 n :: y) = _
    rw [dec1_cons, b8_nat (by omega), if_pos h1]; rfl
  by_cases h2 : n < 2048
  · rw [ecR_2 (by omega) h2]
    show dec1 (b8 (192 + n / 64) :: b8 (128 + n % 64) :: y) = _
    rw [dec1_cons, b8_nat (by omega), if_neg (by omega), if_neg (by omega), if_pos (by omega)]
    dsimp only
    rw [if_pos (ctb8 (Nat.mod_lt _ (by decide))), b8_nat (by omega), fin1_yes (by omega)]
    simp; omega
  by_cases h3 : n < 65536
  · rw [ecR_3 (by omega) h3 h]
    show dec1 (b8 (224 + n / 4096) :: b8 (128 + n / 64 % 64) :: b8 (128 + n % 64) :: y) = _
    rw [dec1_cons, b8_nat (by omega), if_neg (by omega), if_neg (by omega), if_neg (by omega), if_pos (by omega)]
    dsimp only
    rw [if_pos (by rw [ctb8 (Nat.mod_lt _ (by decide)), ctb8 (Nat.mod_lt _ (by decide))]; rfl), b8_nat (by omega), b8_nat (by omega), fin1_yes (by omega)]
    simp; omega
  · rw [ecR_4 (by omega) h]
    show dec1 (b8 (240 + n / 262144) :: b8 (128 + n / 4096 % 64) :: b8 (128 + n / 64 % 64) :: b8 (128 + n % 64) :: y) = _
    rw [dec1_cons, b8_nat (by omega), if_neg (by omega), if_neg (by omega), if_neg (by omega), if_neg (by omega), if_pos (by omega)]
    dsimp only
    rw [if_pos (by rw [ctb8 (Nat.mod_lt _ (by decide)), ctb8 (Nat.mod_lt _ (by decide)), ctb8 (Nat.mod_lt _ (by decide))]; rfl), b8_nat (by omega), b8_nat (by omega), b8_nat (by omega), fin1_yes (by omega)]
    simp; omega
/-- what is read as a sign is that sign's bytes -/
theorem ec_of_dec1 {l : List UInt8} {n w : Nat} (h : dec1 l = some (n, w)) : ecR n = l.take w := by
  have hsc : sc n := (dec1_some h).2.2.2
  cases l with
  | nil => cases h
  | cons b r =>
    have hb8 := UInt8.toNat_lt b
    rw [dec1_cons] at h
    split at h
    · rename_i hb
      simp only [Option.some.injEq, Prod.mk.injEq] at h
      obtain ⟨rfl, rfl⟩ := h
      rw [ecR_1 hb, b8_of]; rfl
    rename_i hb0
    split at h <;> try (cases h; done)
    rename_i hb1
    split at h
    · rename_i hb2
      split at h <;> try (cases h; done)
      rename_i x r'
      split at h <;> try (cases h; done)
      rename_i hc
      obtain ⟨rfl, rfl, h1, h2, h3⟩ := fin1_some h
      have hx := ctb_is.1 hc
      rw [ecR_2 (by omega) (by omega), show 192 + (64 * (b.toNat - 192) + (x.toNat - 128)) / 64 = b.toNat by omega, show 128 + (64 * (b.toNat - 192) + (x.toNat - 128)) % 64 = x.toNat by omega, b8_of, b8_of]
      rfl
    rename_i hb2
    split at h
    · rename_i hb3
      split at h <;> try (cases h; done)
      rename_i x y r'
      split at h <;> try (cases h; done)
      rename_i hc
      obtain ⟨rfl, rfl, h1, h2, h3⟩ := fin1_some h
      simp only [Bool.and_eq_true, ctb_is] at hc
      rw [ecR_3 (by omega) (by omega) hsc, show 224 + (64 * (64 * (b.toNat - 224) + (x.toNat - 128)) + (y.toNat - 128)) / 4096 = b.toNat by omega, show 128 + (64 * (64 * (b.toNat - 224) + (x.toNat - 128)) + (y.toNat - 128)) / 64 % 64 = x.toNat by omega, show 128 + (64 * (64 * (b.toNat - 224) + (x.toNat - 128)) + (y.toNat - 128)) % 64 = y.toNat by omega, b8_of, b8_of, b8_of]
      rfl
    rename_i hb3
    split at h <;> try (cases h; done)
    rename_i hb4
    split at h <;> try (cases h; done)
    rename_i x y z r'
    split at h <;> try (cases h; done)
    rename_i hc
    obtain ⟨rfl, rfl, h1, h2, h3⟩ := fin1_some h
    simp only [Bool.and_eq_true, ctb_is] at hc
    rw [ecR_4 (by omega) hsc, show 240 + (64 * (64 * (64 * (b.toNat - 240) + (x.toNat - 128)) + (y.toNat - 128)) + (z.toNat - 128)) / 262144 = b.toNat by omega, show 128 + (64 * (64 * (64 * (b.toNat - 240) + (x.toNat - 128)) + (y.toNat - 128)) + (z.toNat - 128)) / 4096 % 64 = x.toNat by omega, show 128 + (64 * (64 * (64 * (b.toNat - 240) + (x.toNat - 128)) + (y.toNat - 128)) + (z.toNat - 128)) / 64 % 64 = y.toNat by omega, show 128 + (64 * (64 * (64 * (b.toNat - 240) + (x.toNat - 128)) + (y.toNat - 128)) + (z.toNat - 128)) % 64 = z.toNat by omega, b8_of, b8_of, b8_of, b8_of]
    rfl
/-! ### texts joined -/
theorem dec1_app {l y : List UInt8} {p : Nat × Nat} (h : dec1 l = some p) : dec1 (l ++ y) = some p := by
  cases l with
  | nil => cases h
  | cons b r =>
    rw [List.cons_append, dec1_cons]
    rw [dec1_cons] at h
    split
    · rename_i h1; rw [if_pos h1] at h; exact h
    rename_i h1; rw [if_neg h1] at h
    split
    · rename_i h2; rw [if_pos h2] at h; exact h
    rename_i h2; rw [if_neg h2] at h
    split
    · rename_i h3; rw [if_pos h3] at h
      cases r with
      | nil => cases h
      | cons x r => exact h
    rename_i h3; rw [if_neg h3] at h
    split
    · rename_i h4; rw [if_pos h4] at h
      match r, h with
      | [], h => cases h
      | [x], h => cases h
      | x :: z :: r, h => exact h
    rename_i h4; rw [if_neg h4] at h
    split
    · rename_i h5; rw [if_pos h5] at h
      match r, h with
      | [], h => cases h
      | [x], h => cases h
      | [x, z], h => cases h
      | x :: z :: v :: r, h => exact h
    · rename_i h5; rw [if_neg h5] at h; exact h
theorem signs_app : ∀ (lx : List Nat) (x y : List UInt8), signs x = some lx → signs (x ++ y) = (signs y).map (lx ++ ·)
  | [], x, y, h => by
    have := signs_nil (s := x) (pos := 0) h
    have hx : x = [] := List.length_eq_zero_iff.1 (by omega)
    subst hx
    rw [List.nil_append]
    cases signs y <;> rfl
  | n :: lx, x, y, h => by
    cases x with
    | nil => rw [signs] at h; cases h
    | cons b r =>
      rw [signs_cons] at h
      cases hd : dec1 (b :: r) with
      | none => rw [hd] at h; cases h
      | some p =>
        obtain ⟨m, w⟩ := p
        rw [hd] at h
        simp only [Option.map_eq_some_iff, List.cons.injEq] at h
        obtain ⟨l', h1, rfl, rfl⟩ := h
        have hw := dec1_some hd
        have hd2 := dec1_app (y := y) hd
        simp only [List.length_cons] at hw
        rw [List.cons_append] at hd2
        rw [List.cons_append, signs_cons, hd2]
        simp only
        rw [List.drop_append_of_le_length (by omega), signs_app l' _ y h1, Option.map_map]
        rfl
theorem ecR_len {n : Nat} (h : sc n) : 1 ≤ (ecR n).length ∧ (ecR n).length ≤ 4 ∧ (n < 65536 → (ecR n).length ≤ 3) := by
  by_cases h1 : n < 128
  · rw [ecR_1 h1]; simp
  by_cases h2 : n < 2048
  · rw [ecR_2 (by omega) h2]; simp
  by_cases h3 : n < 65536
  · rw [ecR_3 (by omega) h3 h]; simp
  · rw [ecR_4 (by omega) h]; simp; omega
theorem signs_ec {n : Nat} (h : sc n) : signs (ecR n) = some [n] := by
  have hd := dec1_ec h []
  rw [List.append_nil] at hd
  have hl := (ecR_len h).1
  cases hc : ecR n with
  | nil => rw [hc] at hl; simp at hl
  | cons b r =>
    rw [hc] at hd
    rw [signs_cons, hd]
    simp only [List.length_cons, Nat.add_sub_cancel, List.drop_length]
    rw [signs]; rfl
def encs (l : List Nat) : List UInt8 := l.flatMap ecR
theorem encs_cons (n : Nat) (l : List Nat) : encs (n :: l) = ecR n ++ encs l := rfl
theorem signs_encs : ∀ {l : List Nat}, (∀ n ∈ l, sc n) → signs (encs l) = some l
  | [], _ => by show signs [] = _; rw [signs]
  | n :: l, h => by
    rw [encs_cons, signs_app [n] _ _ (signs_ec (h n (by simp))), signs_encs (fun m hm => h m (by simp [hm]))]
    rfl
theorem encs_of : ∀ {l : List Nat} {s : List UInt8} {pos : Nat}, signs (s.drop pos) = some l → encs l = s.drop pos
  | [], s, pos, h => by
    have := signs_nil h
    rw [List.drop_of_length_le this]; rfl
  | n :: l, s, pos, h => by
    obtain ⟨w, h1, h2, _⟩ := signs_step h
    rw [encs_cons, encs_of h2, ec_of_dec1 h1, ← List.drop_drop, List.take_append_drop]
theorem signs_sc : ∀ {l : List Nat} {s : List UInt8} {pos : Nat}, signs (s.drop pos) = some l → ∀ n ∈ l, sc n
  | [], _, _, _ => by simp
  | n :: l, s, pos, h => by
    obtain ⟨w, h1, h2, _, _, _, h6, h7⟩ := signs_step h
    intro m hm
    rcases List.mem_cons.1 hm with rfl | hm
    · exact ⟨h6, h7⟩
    · exact signs_sc h2 m hm
theorem encs_len : ∀ {l : List Nat}, (∀ n ∈ l, sc n) → (encs l).length ≤ 3 * (unitsOf l).length
  | [], _ => by simp [encs, unitsOf]
  | n :: l, h => by
    have ih := encs_len (l := l) (fun m hm => h m (by simp [hm]))
    have hn := ecR_len (h n (by simp))
    rw [encs_cons, unitsOf_cons, List.length_append, List.length_append]
    by_cases h1 : n < 65536
    · rw [if_pos h1]; have := hn.2.2 h1; simp; omega
    · rw [if_neg h1]; simp; omega
theorem units_ge : ∀ (l : List Nat), l.length ≤ (unitsOf l).length
  | [] => by simp
  | n :: l => by
    have := units_ge l
    rw [unitsOf_cons, List.length_append]
    split <;> simp <;> omega
/-! ### Parse -/
theorem finS_is {acc : List UInt8} {l : List Nat} (hl : acc.length ≤ 1000) (h : signs acc = some l) : U0.finS acc = some (if 64 < l.length then ([], 8) else (acc, 0)) := by
  unfold U0.finS
  rw [U0.h397_is hl h]
  simp only
  by_cases h1 : 64 < l.length
  · rw [if_pos (by omega), if_pos h1]
  · rw [if_neg (by omega), if_neg h1]
theorem prs_lay : ∀ (ls : List Nat) (fuel : Nat) (acc : List UInt8), (∀ n ∈ ls, sc n) → ls.length < fuel → U0.prs fuel (layOf (unitsOf ls)) acc = U0.finS (acc ++ encs ls)
  | [], fuel, acc, _, hf => by
    obtain ⟨m, rfl⟩ : ∃ m, fuel = m + 1 := ⟨fuel - 1, by omega⟩
    rw [show encs [] = [] from rfl, List.append_nil]; rfl
  | n :: ls, fuel, acc, h, hf => by
    simp only [List.length_cons] at hf
    obtain ⟨m, rfl⟩ : ∃ m, fuel = m + 1 := ⟨fuel - 1, by omega⟩
    have hn := h n (by simp)
    have hn1 := hn.1
    have hn2 := hn.2
    have ih := fun acc => prs_lay ls m acc (fun m hm => h m (by simp [hm])) (by omega)
    rw [unitsOf_cons, encs_cons]
    by_cases h1 : n < 65536
    · rw [if_pos h1]
      show U0.prs (m + 1) (n % 256 :: n / 256 % 256 :: layOf (unitsOf ls)) acc = _
      have hu : U0.unit2 (n % 256 :: n / 256 % 256 :: layOf (unitsOf ls)) = (n : Int) := by
        show ((n % 256 + 256 * (n / 256 % 256) : Nat) : Int) = (n : Int)
        omega
      have hs : U0.sg (n % 256 :: n / 256 % 256 :: layOf (unitsOf ls)) = ((n : Int), 2) := by
        unfold U0.sg
        rw [hu, if_pos (by omega)]
      rw [U0.prs, hs, if_neg (by simp), if_neg (show ¬ ((2 : Int) = 0) by decide)]
      show U0.prs m (layOf (unitsOf ls)) (acc ++ ecR n) = _
      rw [ih, List.append_assoc]
    · rw [if_neg h1]
      have q1 : (n - 65536) / 1024 ≤ 1023 := q1023 hn1
      have q2 : (n - 65536) % 1024 < 1024 := Nat.mod_lt _ (by decide)
      have q3 : 1024 * ((n - 65536) / 1024) + (n - 65536) % 1024 = n - 65536 := Nat.div_add_mod _ _
      generalize (n - 65536) / 1024 = p at *
      generalize (n - 65536) % 1024 = q at *
      show U0.prs (m + 1) ((55296 + p) % 256 :: (55296 + p) / 256 % 256 :: (56320 + q) % 256 :: (56320 + q) / 256 % 256 :: layOf (unitsOf ls)) acc = _
      have hu : U0.unit2 ((55296 + p) % 256 :: (55296 + p) / 256 % 256 :: (56320 + q) % 256 :: (56320 + q) / 256 % 256 :: layOf (unitsOf ls)) = ((55296 + p : Nat) : Int) := by
        show (((55296 + p) % 256 + 256 * ((55296 + p) / 256 % 256) : Nat) : Int) = _
        omega
      have hu2 : U0.unit2 (List.drop 2 ((55296 + p) % 256 :: (55296 + p) / 256 % 256 :: (56320 + q) % 256 :: (56320 + q) / 256 % 256 :: layOf (unitsOf ls))) = ((56320 + q : Nat) : Int) := by
        show (((56320 + q) % 256 + 256 * ((56320 + q) / 256 % 256) : Nat) : Int) = _
        omega
      have hs : U0.sg ((55296 + p) % 256 :: (55296 + p) / 256 % 256 :: (56320 + q) % 256 :: (56320 + q) / 256 % 256 :: layOf (unitsOf ls)) = ((n : Int), 4) := by
        unfold U0.sg
        rw [hu, hu2, if_neg (by omega), if_neg (by omega)]
        congr 1
        omega
      rw [U0.prs, hs, if_neg (by simp), if_neg (show ¬ ((4 : Int) = 0) by decide)]
      show U0.prs m (layOf (unitsOf ls)) (acc ++ ecR n) = _
      rw [ih, List.append_assoc]
theorem prs_back : ∀ (fuel : Nat) (b : List Nat) (acc : List UInt8), bel 256 b → b.length % 2 = 0 → b.length < fuel → U0.prs fuel b acc = some ([], 3) ∨ ∃ ls, (∀ n ∈ ls, sc n) ∧ layOf (unitsOf ls) = b ∧ U0.prs fuel b acc = U0.finS (acc ++ encs ls) := by
  intro fuel
  induction fuel with
  | zero => intro b acc _ _ h; omega
  | succ m ih =>
    intro b acc hb he hf
    match b, hb, he, hf with
    | [], _, _, _ => exact Or.inr ⟨[], by simp, rfl, by rw [show encs [] = [] from rfl, List.append_nil]; rfl⟩
    | [x], _, he, _ => simp at he
    | x :: y :: r, hb, he, hf =>
      have hx : x < 256 := hb x (by simp)
      have hy : y < 256 := hb y (by simp)
      have hu : U0.unit2 (x :: y :: r) = ((x + 256 * y : Nat) : Int) := rfl
      simp only [List.length_cons] at he hf
      by_cases c1 : x + 256 * y < 55296 ∨ 57344 ≤ x + 256 * y
      · have hs : U0.sg (x :: y :: r) = (((x + 256 * y : Nat) : Int), 2) := by
          unfold U0.sg
          rw [hu, if_pos (by omega)]
        rw [U0.prs, if_neg (by simp), hs, if_neg (show ¬ ((2 : Int) = 0) by decide)]
        show U0.prs m r (acc ++ ecR (x + 256 * y)) = _ ∨ _
        rcases ih r (acc ++ ecR (x + 256 * y)) (fun z hz => hb z (by simp [hz])) (by omega) (by omega) with h | ⟨ls, h1, h2, h3⟩
        · exact Or.inl h
        · refine Or.inr ⟨(x + 256 * y) :: ls, fun n hn => ?_, ?_, ?_⟩
          · rcases List.mem_cons.1 hn with rfl | hn
            · exact ⟨by omega, by omega⟩
            · exact h1 n hn
          · rw [unitsOf_cons, if_pos (by omega)]
            show (x + 256 * y) % 256 :: (x + 256 * y) / 256 % 256 :: layOf (unitsOf ls) = _
            rw [h2, show (x + 256 * y) % 256 = x by omega, show (x + 256 * y) / 256 % 256 = y by omega]
          · show U0.prs m r (acc ++ ecR (x + 256 * y)) = _
            rw [h3, encs_cons, List.append_assoc]
      · match r, hu, hb, he, hf with
        | [], hu, _, _, _ =>
          left
          have h2 : U0.unit2 (List.drop 2 [x, y]) = -1 := rfl
          have hs : U0.sg [x, y] = (0, 0) := by
            unfold U0.sg
            rw [hu, h2, if_neg (by omega), if_pos (by omega)]
          rw [U0.prs, if_neg (by simp), hs, if_pos (by rfl)]
        | [z], _, _, he, _ => simp at he
        | z :: v :: r, hu, hb, he, hf =>
          have hz : z < 256 := hb z (by simp)
          have hv : v < 256 := hb v (by simp)
          simp only [List.length_cons] at he hf
          have hu2 : U0.unit2 (List.drop 2 (x :: y :: z :: v :: r)) = ((z + 256 * v : Nat) : Int) := rfl
          by_cases c2 : 56320 ≤ x + 256 * y ∨ z + 256 * v < 56320 ∨ 57344 ≤ z + 256 * v
          · left
            have hs : U0.sg (x :: y :: z :: v :: r) = (0, 0) := by
              unfold U0.sg
              rw [hu, hu2, if_neg (by omega), if_pos (by omega)]
            rw [U0.prs, if_neg (by simp), hs, if_pos (by rfl)]
          · have hs : U0.sg (x :: y :: z :: v :: r) = ((65536 : Int) + (((x + 256 * y : Nat) : Int) - 55296) * 1024 + ((z + 256 * v : Nat) : Int) - 56320, 4) := by
              unfold U0.sg
              rw [hu, hu2, if_neg (by omega), if_neg (by omega)]
            rw [U0.prs, if_neg (by simp), hs, if_neg (show ¬ ((4 : Int) = 0) by decide)]
            have hn : (65536 : Int) + (((x + 256 * y : Nat) : Int) - 55296) * 1024 + ((z + 256 * v : Nat) : Int) - 56320 = ((65536 + (x + 256 * y - 55296) * 1024 + (z + 256 * v - 56320) : Nat) : Int) := by omega
            rw [hn]
            have hge : 65536 ≤ 65536 + (x + 256 * y - 55296) * 1024 + (z + 256 * v - 56320) := by omega
            have hle : 65536 + (x + 256 * y - 55296) * 1024 + (z + 256 * v - 56320) ≤ 1114111 := by omega
            have hdv : (65536 + (x + 256 * y - 55296) * 1024 + (z + 256 * v - 56320) - 65536) / 1024 = x + 256 * y - 55296 := by omega
            have hmd : (65536 + (x + 256 * y - 55296) * 1024 + (z + 256 * v - 56320) - 65536) % 1024 = z + 256 * v - 56320 := by omega
            generalize hN : 65536 + (x + 256 * y - 55296) * 1024 + (z + 256 * v - 56320) = n at *
            show U0.prs m r (acc ++ ecR n) = _ ∨ _
            rcases ih r (acc ++ ecR n) (fun z hz => hb z (by simp [hz])) (by omega) (by omega) with h | ⟨ls, h1, h2, h3⟩
            · exact Or.inl h
            · refine Or.inr ⟨n :: ls, fun k hk => ?_, ?_, ?_⟩
              · rcases List.mem_cons.1 hk with rfl | hk
                · exact ⟨hle, by omega⟩
                · exact h1 k hk
              · rw [unitsOf_cons, if_neg (by omega), hdv, hmd]
                show (55296 + (x + 256 * y - 55296)) % 256 :: (55296 + (x + 256 * y - 55296)) / 256 % 256 :: (56320 + (z + 256 * v - 56320)) % 256 :: (56320 + (z + 256 * v - 56320)) / 256 % 256 :: layOf (unitsOf ls) = _
                rw [h2, show (55296 + (x + 256 * y - 55296)) % 256 = x by omega, show (55296 + (x + 256 * y - 55296)) / 256 % 256 = y by omega, show (56320 + (z + 256 * v - 56320)) % 256 = z by omega, show (56320 + (z + 256 * v - 56320)) / 256 % 256 = v by omega]
              · show U0.prs m r (acc ++ ecR n) = _
                rw [h3, encs_cons, List.append_assoc]
end Go.Proofs.YtchoafdpckknmaaDoorE
