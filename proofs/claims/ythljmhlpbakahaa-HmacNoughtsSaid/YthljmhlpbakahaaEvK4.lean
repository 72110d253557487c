/- SHA-256: the law Sha256Parts answers true. -/
import Derived.Test.YthljmhlpbakahaaEvK3
namespace Go.Proofs.YthljmhlpbakahaaE
open Go
set_option linter.unusedSimpArgs false
set_option linter.unusedVariables false
theorem parts_of {ll : List (List Int)} (h : ∀ x ∈ ll, ∀ y ∈ x, (Lit.int .u8 y).wf = true) : ∃ b : List Nat, ll.flatten = nI b ∧ bel 256 b := by
  obtain ⟨r, h1, h2⟩ := wf_bel (k := .u8) rfl (l := ll.flatten) (fun y hy => by
    obtain ⟨x, hx, hxy⟩ := List.mem_flatten.1 hy
    exact h x hx y hxy)
  exact ⟨r, h1, h2⟩
theorem fl_small {ll : List (List Int)} : ∀ {i : Nat}, i ≤ ll.length → (∀ x ∈ ll.take i, x.length ≤ 100) → fl ll i ≤ 100 * i
  | 0, _, _ => by simp [fl]
  | i + 1, hi, h => by
    have e : ll.take (i + 1) = ll.take i ++ [ll[i]] := by rw [List.take_add_one, List.getElem?_eq_getElem (by omega)]; rfl
    rw [e] at h
    have h1 := fl_small (i := i) (by omega) (fun x hx => h x (List.mem_append.2 (.inl hx)))
    have h2 := h ll[i] (List.mem_append.2 (.inr (by simp)))
    rw [fl_succ (by omega)]
    omega
section
variable {c212 : Option Bool} {c217 : Int → Option (List Int)} {c219 : Option (List Int)} {c215 : List Int → List Int → Option (List Int)} {c213 : List (List Int) → Option (List Int)}
theorem L207_0_is (A : c212 = some true) (N : Nat) (q : List (List Int) → Nat → List Int → Option Bool) (ll : List (List Int)) (hl : ll.length ≤ 20) (hq : (∀ x ∈ ll, x.length ≤ 100) → q ll ll.flatten.length ll.flatten = some true) :
    ∀ (d i fuel : Nat), i + d = ll.length → d < fuel → (∀ x ∈ ll.take i, x.length ≤ 100) → L207_0 c212 c217 c219 c215 c213 N q fuel ll (fl ll i) ll ((ll.length : Nat) : Int) (i : Int) (ll.take i).flatten = some true := by
  intro d
  induction d with
  | zero =>
    intro i fuel hd hf hs
    obtain ⟨m, rfl⟩ : ∃ m, fuel = m + 1 := ⟨fuel - 1, by omega⟩
    obtain rfl : i = ll.length := by omega
    simp only [L207_0, show ¬ (((ll.length : Nat) : Int) < ((ll.length : Nat) : Int)) by omega, decide_false, cond_false]
    rw [List.take_length] at hs ⊢
    have := hq hs
    unfold fl
    rw [List.take_length]
    exact this
  | succ d ih =>
    intro i fuel hd hf hs
    obtain ⟨m, rfl⟩ : ∃ m, fuel = m + 1 := ⟨fuel - 1, by omega⟩
    have hi : i < ll.length := by omega
    have h1 := fl_succ hi
    have h2 := fl_small (i := i) (by omega) hs
    have e : ll.take (i + 1) = ll.take i ++ [ll[i]] := by rw [List.take_add_one, List.getElem?_eq_getElem hi]; rfl
    have ef : (ll.take i).flatten ++ ll[i] = (ll.take (i + 1)).flatten := by rw [e, List.flatten_append, List.flatten_cons, List.flatten_nil, List.append_nil]
    simp only [L207_0, show (i : Int) < ((ll.length : Nat) : Int) by omega, decide_true, cond_true, geti_nat, List.getElem?_eq_getElem hi]
    by_cases h100 : ll[i].length ≤ 100
    · simp only [show ¬ (((ll[i].length : Nat) : Int) > 100) by omega, decide_false, cond_false, Nat.mul_one, show ((ll.take i).flatten.length == fl ll i) = true from beq_self_eq_true _, ← h1, show fl ll (i + 1) ≤ 1099511627776 by omega, decide_true, Bool.and_self, cond_true, ef]
      rw [up1 (by omega)]
      exact ih (i + 1) m (by omega) (by omega) (fun x hx => by
        rw [e] at hx
        rcases List.mem_append.1 hx with g | g
        · exact hs x g
        · rw [List.mem_singleton.1 g]; exact h100)
    · simp only [show ((ll[i].length : Nat) : Int) > 100 by omega, decide_true, cond_true, A]
theorem L207_1_is (F : ∀ (s : S8) (B : List Nat), s.ok → bel 256 B → B.length = 64 → c215 (nI s.l) (nI B) = some (nI (s2blk s B).l)) (N : Nat) (q : List (List Int) → Nat → List Int → List Int → Option Bool) (v16 : List (List Int)) (v17 : Nat) (v19 : List Int) :
    ∀ (n fuel : Nat) (l : List Nat) (s : S8), l.length = 64 * n → n < fuel → bel 256 l → s.ok → n < 2 ^ 40 → L207_1 c212 c217 c219 c215 c213 N q fuel v16 v17 (nI l) v19 (nI s.l) = q v16 v17 v19 (nI (s2blks n s l).l) := by
  intro n
  induction n with
  | zero =>
    intro fuel l s hl hf hb hs h40
    obtain ⟨m, rfl⟩ : ∃ m, fuel = m + 1 := ⟨fuel - 1, by omega⟩
    obtain rfl : l = [] := List.length_eq_zero_iff.1 (by omega)
    rw [s2blks]
    rfl
  | succ n ih =>
    intro fuel l s hl hf hb hs h40
    obtain ⟨m, rfl⟩ : ∃ m, fuel = m + 1 := ⟨fuel - 1, by omega⟩
    have h64 : List.take 64 (List.drop 0 (List.take 64 (nI l))) = nI (l.take 64) := by rw [List.drop_zero, List.take_take, Nat.min_self, nI_take]
    have htl : (List.take 64 (nI l)).length = 64 := by rw [List.length_take, nI_len]; omega
    have key := ih m (l.drop 64) (s2blk s (l.take 64)) (by rw [List.length_drop]; omega) (by omega) (bel_drop hb) (s2blk_ok _ _) (by omega)
    have hc := F s (l.take 64) hs (bel_take hb) (by rw [List.length_take]; omega)
    rw [s2blks]
    generalize s2blk s (l.take 64) = t at *
    simp only [L207_1, nI_len, show ((l.length : Nat) : Int) > 0 by omega, decide_true, cond_true, s8l_len, Nat.le_refl, show (64 : Int) ≤ ((l.length : Nat) : Int) by omega, htl, h8, h64, hc, beq_self_eq_true, Nat.zero_add, take0, List.nil_append]
    rw [d8, List.append_nil, nI_drop]
    exact key
theorem p207_is (A : c212 = some true) (F217 : ∀ n : Nat, c217 (n : Int) = some (nI (tail (le8 (bits8 n)).reverse n))) (F219 : c219 = some (nI s2I.l))
    (F : ∀ (s : S8) (B : List Nat), s.ok → bel 256 B → B.length = 64 → c215 (nI s.l) (nI B) = some (nI (s2blk s B).l))
    (F213 : ∀ (ll : List (List Int)) (b : List Nat), ll.length ≤ 1000 → ll.flatten = nI b → bel 256 b → b.length ≤ 6000 → c213 ll = some (nI (s2dig b)))
    {ll : List (List Int)} {b : List Nat} (hfl : ll.flatten = nI b) (hb : bel 256 b) : p207 c212 c217 c219 c215 c213 100 ll = some true := by
  unfold p207
  by_cases h20 : ll.length ≤ 20
  · simp only [show ¬ (((ll.length : Nat) : Int) > 20) by omega, decide_false, cond_false]
    refine L207_0_is A 100 _ ll h20 (fun hall => ?_) ll.length 0 100 (by omega) (by omega) (by simp)
    have hsm := fl_small (ll := ll) (i := ll.length) (Nat.le_refl _) (by rw [List.take_length]; exact hall)
    have hbl : b.length ≤ 2000 := by
      have : fl ll ll.length = b.length := by unfold fl; rw [List.take_length, hfl, nI_len]
      omega
    have hm := s1msg_len b
    have hz := nz_lt b.length
    have hmod := s1msg_mod b
    have hnz := nz_mod b.length
    have htl := tail_len b.length (show (le8 (bits8 b.length)).reverse.length = 8 from rfl)
    have h90a := F213 ll b (by omega) hfl hb (by omega)
    have h90b := F213 [nI b] b (by simp) (by simp) hb (by omega)
    have hsum : iadd .i64 ((b.length : Nat) : Int) (((nz b.length + 9) : Nat) : Int) = ((b.length + (nz b.length + 9) : Nat) : Int) := addn (by omega)
    have hrem : irem ((b.length + (nz b.length + 9) : Nat) : Int) 64 = ((0 : Nat) : Int) := by rw [show (64 : Int) = ((64 : Nat) : Int) from rfl, irem_n, hnz]
    have hdl := s2dig_len b
    rw [hfl]
    simp only [nI_len]
    rw [w64 (by omega), F217, F219, A]
    simp only [nI_len, htl, hsum, hrem, show (((0 : Nat) : Int) != 0) = false from rfl, cond_false, show ¬ (((nz b.length + 9 : Nat) : Int) < 9) by omega, decide_false, show ¬ (((nz b.length + 9 : Nat) : Int) > 72) by omega]
    rw [show geti (nI (tail (le8 (bits8 b.length)).reverse b.length)) 0 = some 128 from rfl]
    simp only [bne_self_eq_false, cond_false, s8l_len, beq_self_eq_true, cond_true, Nat.zero_add, Nat.le_refl, decide_true, Nat.mul_one, show b.length ≤ 1099511627776 by omega, Bool.and_self]
    have hbt : List.take b.length (List.drop 0 (nI b)) = nI b := by rw [List.drop_zero, List.take_of_length_le (by rw [nI_len]; exact Nat.le_refl _)]
    rw [hbt]
    simp only [nI_len, beq_self_eq_true, show b.length + (nz b.length + 9) ≤ 1099511627776 by omega, decide_true, Bool.and_self, cond_true, nI_app, show b ++ tail (le8 (bits8 b.length)).reverse b.length = s1msg b from rfl, hm, Nat.le_refl, List.drop_zero]
    rw [List.nil_append, show List.drop 8 [(0 : Int), (0 : Int), (0 : Int), (0 : Int), (0 : Int), (0 : Int), (0 : Int), (0 : Int)] = ([] : List Int) from rfl, List.append_nil, nI_take, show List.take (b.length + (nz b.length + 9)) (s1msg b) = s1msg b from List.take_of_length_le (by omega)]
    refine (L207_1_is F 100 _ _ _ _ ((s1msg b).length / 64) 100 (s1msg b) s2I hmod (by omega) (s1msg_bel hb) s2I_ok (by omega)).trans ?_
    have hend : s2blks ((s1msg b).length / 64) s2I (s1msg b) = s2end b := by rw [s2end]
    rw [hend]
    have hbt2 : List.take b.length (nI b) = nI b := List.take_of_length_le (by rw [nI_len]; exact Nat.le_refl _)
    have hDl : (nI (s2dig b)).length = 32 := by rw [nI_len]; exact hdl
    have hdig : s2dig b = (s2end b).bytes := by rw [s2dig]
    generalize s2end b = t at *
    have hD0 : (nI (s2dig b))[0]? = some (IntKind.wrap .u8 (ishr .u32 ((t.a : Nat) : Int) 24)) := by
      rw [hdig, sh_is t.a (k := 24) (e := 24) (by omega) rfl]; rfl
    have hD31 : (nI (s2dig b))[31]? = some (IntKind.wrap .u8 ((t.h : Nat) : Int)) := by rw [hdig, w8]; rfl
    have hs0 : (nI t.l)[0]? = some ((t.a : Nat) : Int) := rfl
    have hs7 : (nI t.l)[7]? = some ((t.h : Nat) : Int) := rfl
    generalize nI (s2dig b) = D at *
    have hDt : List.take 32 D = D := List.take_of_length_le (by omega)
    have e0 : D[0]'(by omega) = IntKind.wrap .u8 (ishr .u32 ((t.a : Nat) : Int) 24) := by
      rw [List.getElem?_eq_getElem (by omega)] at hD0; exact Option.some.inj hD0
    have e31 : D[31]'(by omega) = IntKind.wrap .u8 ((t.h : Nat) : Int) := by
      rw [List.getElem?_eq_getElem (by omega)] at hD31; exact Option.some.inj hD31
    simp [hbt2, h90a, h90b, hDl, hDt, e0, e31, hs0, hs7, nI_len]
  · simp only [show ((ll.length : Nat) : Int) > 20 by omega, decide_true, cond_true, A]
end
open Classical in
noncomputable def f207 (a : List (List Int)) : Option Bool := if ∀ x ∈ a, ∀ y ∈ x, (Lit.int .u8 y).wf = true then some true else none
theorem E207 : EntOK FT XT 207 (en207 f207) := ok207 f212 h217 h219 h215 h213 E212 E217 E219 E215 E213 fun a r h => ⟨100, by
  unfold f207 at h
  split at h <;> try (cases h; done)
  rename_i hc
  rw [← h]
  obtain ⟨b, h1, h2⟩ := parts_of hc
  exact p207_is rfl h217_is h219_is (fun s B h1 h2 h3 => h215_is h1 h2 h3) (fun ll b h1 h2 h3 h4 => h213_is h1 h2 h3 h4) h1 h2⟩
theorem law207 (z0 : List (List Int)) (h0 : z0.length ≤ maxLen ∧ ∀ x ∈ z0, x.length ≤ maxLen ∧ ∀ y ∈ x, (Lit.int .u8 y).wf = true) : Ans FT XT 207 (encL [Sh.sl (Sh.sl (.int .u8))] (z0, ())) [] (.bool true) [] :=
  E207.2 (z0, ()) true (if_pos fun x hx => (h0.2 x hx).2)
end Go.Proofs.YthljmhlpbakahaaE
