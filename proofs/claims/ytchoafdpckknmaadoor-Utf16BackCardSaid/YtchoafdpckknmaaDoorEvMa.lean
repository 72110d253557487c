/- Whole numbers of a kind, in plain arithmetic. -/
import Derived.Test.YtchoafdpckknmaaDoorEvP1
namespace Go.Proofs.YtchoafdpckknmaaDoorE
open Go
set_option linter.unusedSimpArgs false
set_option linter.unusedVariables false

theorem wrap_u (k : IntKind) (hk : k.signed = false) {x : Int} (h0 : 0 ≤ x) (h : x < 2 ^ k.bits) : k.wrap x = x := by
 unfold IntKind.wrap
 simp only [hk, Bool.false_and, Bool.false_eq_true, if_false]
 exact Int.emod_eq_of_lt h0 h
theorem wrap_um (k : IntKind) (hk : k.signed = false) (x : Int) : k.wrap x = x % 2 ^ k.bits := by
 unfold IntKind.wrap
 simp only [hk, Bool.false_and, Bool.false_eq_true, if_false]
theorem wrap_u64 (x : Int) : IntKind.u64.wrap x = x % 2 ^ 64 := wrap_um _ rfl _
theorem wrap_u32 (x : Int) : IntKind.u32.wrap x = x % 2 ^ 32 := wrap_um _ rfl _
theorem wrap_u16 (x : Int) : IntKind.u16.wrap x = x % 2 ^ 16 := wrap_um _ rfl _
theorem wrap_u8 (x : Int) : IntKind.u8.wrap x = x % 2 ^ 8 := wrap_um _ rfl _
theorem wrap_i64 {x : Int} (h0 : -2 ^ 63 ≤ x) (h : x < 2 ^ 63) : IntKind.i64.wrap x = x := by
 unfold IntKind.wrap
 simp [IntKind.signed, IntKind.bits]
 omega
theorem ofInt_nat (b n : Nat) (h : n < 2 ^ b) : (BitVec.ofInt b (n : Int)).toNat = n := by
 rw [BitVec.toNat_ofInt]
 have : ((n : Int) % ((2 ^ b : Nat) : Int)) = ((n % 2 ^ b : Nat) : Int) := by norm_cast
 rw [this, Int.toNat_natCast, Nat.mod_eq_of_lt h]
theorem iand_u (k : IntKind) (hk : k.signed = false) (a b : Nat) (ha : a < 2 ^ k.bits) (hb : b < 2 ^ k.bits) : iand k a b = ((a &&& b : Nat) : Int) := by
 unfold iand
 rw [BitVec.toNat_and, ofInt_nat _ _ ha, ofInt_nat _ _ hb]
 exact wrap_u k hk (by omega) (by exact_mod_cast Nat.and_lt_two_pow a hb)
theorem ior_u (k : IntKind) (hk : k.signed = false) (a b : Nat) (ha : a < 2 ^ k.bits) (hb : b < 2 ^ k.bits) : ior k a b = ((a ||| b : Nat) : Int) := by
 unfold ior
 rw [BitVec.toNat_or, ofInt_nat _ _ ha, ofInt_nat _ _ hb]
 exact wrap_u k hk (by omega) (by exact_mod_cast Nat.or_lt_two_pow ha hb)
theorem ixor_u (k : IntKind) (hk : k.signed = false) (a b : Nat) (ha : a < 2 ^ k.bits) (hb : b < 2 ^ k.bits) : ixor k a b = ((a ^^^ b : Nat) : Int) := by
 unfold ixor
 rw [BitVec.toNat_xor, ofInt_nat _ _ ha, ofInt_nat _ _ hb]
 exact wrap_u k hk (by omega) (by exact_mod_cast Nat.xor_lt_two_pow ha hb)
theorem ishl_u (k : IntKind) (hk : k.signed = false) (a n : Nat) (hn : n ≤ k.bits) : ishl k a n = ((a * 2 ^ n % 2 ^ k.bits : Nat) : Int) := by
 unfold ishl
 rw [wrap_um k hk, Int.toNat_natCast, Nat.min_eq_left hn]
 norm_cast
theorem ishr_u (k : IntKind) (a n : Nat) (hn : n ≤ k.bits) : ishr k a n = ((a / 2 ^ n : Nat) : Int) := by
 unfold ishr
 rw [Int.toNat_natCast, Nat.min_eq_left hn]
 rw [Int.fdiv_eq_ediv_of_nonneg _ (by exact_mod_cast Nat.zero_le _)]
 norm_cast
theorem iadd_u (k : IntKind) (hk : k.signed = false) (a b : Nat) : iadd k a b = (((a + b) % 2 ^ k.bits : Nat) : Int) := by
 unfold iadd
 rw [wrap_um k hk]; norm_cast
theorem iadd_i {a b : Int} (h0 : -2 ^ 63 ≤ a + b) (h : a + b < 2 ^ 63) : iadd .i64 a b = a + b := wrap_i64 h0 h
theorem isub_i {a b : Int} (h0 : -2 ^ 63 ≤ a - b) (h : a - b < 2 ^ 63) : isub .i64 a b = a - b := wrap_i64 h0 h
theorem imul_i {a b : Int} (h0 : -2 ^ 63 ≤ a * b) (h : a * b < 2 ^ 63) : imul .i64 a b = a * b := wrap_i64 h0 h
theorem geti_nat {β : Type} (l : List β) (i : Nat) : geti l (i : Int) = l[i]? := by simp [geti]
theorem wf_u {k : IntKind} (hk : k.signed = false) {n : Int} (h : (Lit.int k n).wf = true) : 0 ≤ n ∧ n < 2 ^ k.bits := by
 cases k <;> simp [IntKind.signed] at hk <;> simp [Lit.wf, IntKind.min, IntKind.max, IntKind.signed, IntKind.bits] at h ⊢ <;> omega
theorem wf_i64 {n : Int} (h : (Lit.int .i64 n).wf = true) : -2 ^ 63 ≤ n ∧ n < 2 ^ 63 := by
 simp [Lit.wf, IntKind.min, IntKind.max, IntKind.signed, IntKind.bits] at h ⊢; omega
theorem wf_i16 {n : Int} (h : (Lit.int .i16 n).wf = true) : -2 ^ 15 ≤ n ∧ n < 2 ^ 15 := by
 simp [Lit.wf, IntKind.min, IntKind.max, IntKind.signed, IntKind.bits] at h ⊢; omega

/-! ### loops over a list -/
/-- what a loop over a list finds: a step goes on, or ends it -/
def runL {σ β ρ : Type} (step : σ → β → ρ ⊕ σ) (fin : σ → ρ) : List β → σ → ρ
 | [], s => fin s
 | c :: l, s => match step s c with | .inl r => r | .inr s' => runL step fin l s'
theorem range_run {σ β ρ : Type} {L : Nat → σ → Int → Option ρ} {l : List β} {step : σ → β → ρ ⊕ σ} {fin : σ → ρ} (P : σ → Nat → Prop)
  (h : ∀ n s (i : Nat) c, P s i → l[i]? = some c → i < l.length → (∀ s', step s c = .inr s' → P s' (i + 1)) ∧ L (n + 1) s i = match step s c with | .inl r => some r | .inr s' => L n s' ((i + 1 : Nat) : Int))
  (h0 : ∀ n s, P s l.length → L (n + 1) s (l.length : Int) = some (fin s)) :
  ∀ (d i n : Nat) (s : σ), i + d = l.length → d < n → P s i → L n s i = some (runL step fin (l.drop i) s) := by
 intro d
 induction d with
 | zero =>
  intro i n s hd hn hp
  obtain ⟨m, rfl⟩ : ∃ m, n = m + 1 := ⟨n - 1, by omega⟩
  have : i = l.length := by omega
  subst this
  rw [h0 m s hp, List.drop_length]; rfl
 | succ d ih =>
  intro i n s hd hn hp
  obtain ⟨m, rfl⟩ : ∃ m, n = m + 1 := ⟨n - 1, by omega⟩
  have hi : i < l.length := by omega
  have hc := List.getElem?_eq_getElem hi
  obtain ⟨h1, h2⟩ := h m s i l[i] hp hc hi
  rw [h2, List.drop_eq_getElem_cons hi]
  simp only [runL]
  cases hs : step s l[i] with
  | inl r => rfl
  | inr s' => exact ih (i + 1) m s' (by omega) (by omega) (h1 s' hs)
theorem runL_fold {σ β ρ : Type} {g : σ → β → σ} {fin : σ → ρ} : ∀ (l : List β) (s : σ), runL (fun s c => .inr (g s c)) fin l s = fin (l.foldl g s)
 | [], s => rfl
 | c :: l, s => by simp only [runL, List.foldl_cons]; exact runL_fold l (g s c)
theorem range_fold {σ β ρ : Type} {L : Nat → σ → Int → Option ρ} {l : List β} {g : σ → β → σ} {fin : σ → ρ} (P : σ → Nat → Prop)
  (h : ∀ n s (i : Nat) c, P s i → l[i]? = some c → i < l.length → P (g s c) (i + 1) ∧ L (n + 1) s i = L n (g s c) ((i + 1 : Nat) : Int))
  (h0 : ∀ n s, P s l.length → L (n + 1) s (l.length : Int) = some (fin s)) (N : Nat) (hN : l.length < N) (s : σ) (hs : P s 0) : L N s 0 = some (fin (l.foldl g s)) := by
 have := range_run (step := fun s c => .inr (g s c)) (fin := fin) P (fun n s i c hp hc hi => ⟨fun s' e => by injection e with e; subst e; exact (h n s i c hp hc hi).1, (h n s i c hp hc hi).2⟩) h0 l.length 0 N s (by omega) hN hs
 rw [List.drop_zero, runL_fold] at this
 exact this
/-- a count downward -/
theorem down_run {σ ρ : Type} {L : Nat → σ → Int → Option ρ} {g : σ → Nat → σ} {fin : σ → ρ} (P : σ → Nat → Prop)
  (h : ∀ n s (i : Nat), P s (i + 1) → P (g s i) i ∧ L (n + 1) s (i : Int) = L n (g s i) ((i : Int) - 1))
  (h0 : ∀ n s, P s 0 → L (n + 1) s (-1) = some (fin s)) : ∀ (d n : Nat) (s : σ), d < n → P s d → L n s ((d : Int) - 1) = some (fin ((List.range d).reverse.foldl g s)) := by
 intro d
 induction d with
 | zero =>
  intro n s hn hp
  obtain ⟨m, rfl⟩ : ∃ m, n = m + 1 := ⟨n - 1, by omega⟩
  exact h0 m s hp
 | succ d ih =>
  intro n s hn hp
  obtain ⟨m, rfl⟩ : ∃ m, n = m + 1 := ⟨n - 1, by omega⟩
  obtain ⟨h1, h2⟩ := h m s d hp
  rw [show (((d + 1 : Nat) : Int) - 1) = (d : Int) by omega, h2, ih m _ (by omega) h1, List.range_succ, List.reverse_append]
  rfl
/-- a count upward -/
theorem up_run {σ ρ : Type} {L : Nat → σ → Int → Option ρ} {g : σ → Nat → σ} {fin : σ → ρ} (P : σ → Nat → Prop) (e : Nat)
  (h : ∀ n s (i : Nat), i < e → P s i → P (g s i) (i + 1) ∧ L (n + 1) s (i : Int) = L n (g s i) ((i + 1 : Nat) : Int))
  (h0 : ∀ n s, P s e → L (n + 1) s (e : Int) = some (fin s)) : ∀ (d i n : Nat) (s : σ), i + d = e → d < n → P s i → L n s i = some (fin ((List.range' i d).foldl g s)) := by
 intro d
 induction d with
 | zero =>
  intro i n s hd hn hp
  obtain ⟨m, rfl⟩ : ∃ m, n = m + 1 := ⟨n - 1, by omega⟩
  have : i = e := by omega
  subst this
  exact h0 m s hp
 | succ d ih =>
  intro i n s hd hn hp
  obtain ⟨m, rfl⟩ : ∃ m, n = m + 1 := ⟨n - 1, by omega⟩
  obtain ⟨h1, h2⟩ := h m s i (by omega) hp
  rw [h2, ih (i + 1) m _ (by omega) (by omega) h1]
  rfl
end Go.Proofs.YtchoafdpckknmaaDoorE
