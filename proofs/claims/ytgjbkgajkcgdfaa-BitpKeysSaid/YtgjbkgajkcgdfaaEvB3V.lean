/- The law BitpWords. -/
import Derived.Test.YtgjbkgajkcgdfaaEvB3W
namespace Go.Proofs.YtgjbkgajkcgdfaaE
open Go
set_option linter.unusedSimpArgs false
set_option linter.unusedVariables false

/-- a bit of a word -/
def bitN (x w i : Int) : Nat := if wideB w = true ∧ 1 ≤ i ∧ i ≤ w then x.toNat / 2 ^ (w - i).toNat % 2 else 0
theorem bitN_lt (x w i : Int) : bitN x w i < 2 := by
  unfold bitN; split
  · exact Nat.mod_lt _ (by omega)
  · omega
def f33 (x w i : Int) : Option Int := if isW x ∧ -2 ^ 63 ≤ i ∧ i < 2 ^ 63 then some ((bitN x w i : Nat) : Int) else none
section
variable {c53 : Int → Option Bool} {c55 : Int → Option Bool} {c56 : Int → Int → Option (List Int)}
theorem p33_is {x w i : Int} {b : Bool} (F : c53 w = some b) (h1 : b = true → 1 ≤ i → i ≤ w → isub .i64 w i = w - i) : p33 c53 0 x w i = some (if b = true ∧ 1 ≤ i ∧ i ≤ w then iand .u64 (ishr .u64 x (w - i)) 1 else 0) := by
  rw [p33.eq_def]
  simp only [F]
  cases b with
  | false => simp
  | true =>
    by_cases h2 : i < 1
    · simp [h2, show ¬ (1 ≤ i ∧ i ≤ w) by omega]
    · by_cases h3 : i > w
      · simp [h2, h3, show ¬ (1 ≤ i ∧ i ≤ w) by omega]
      · have h4 : 1 ≤ i ∧ i ≤ w := by omega
        rw [if_pos ⟨rfl, h4⟩, h1 rfl h4.1 h4.2]
        simp [h2, h3, show ¬ (w - i < 0) by omega]
theorem p34_is {x w i : Int} {b : Bool} {r : List Int} {y : Nat} (F : c55 w = some b) (h1 : b = true → 1 ≤ i → i ≤ w → isub .i64 i 1 = ((i - 1).toNat : Int) ∧ c56 x w = some r ∧ r[(i - 1).toNat]? = some (y : Int)) (hy : y < 2) : p34 c55 c56 0 x w i = some (if b = true ∧ 1 ≤ i ∧ i ≤ w then (y : Int) else 0) := by
  rw [p34.eq_def]
  simp only [F]
  cases b with
  | false => simp
  | true =>
    by_cases h2 : i < 1
    · simp [h2, show ¬ (1 ≤ i ∧ i ≤ w) by omega]
    · by_cases h3 : i > w
      · simp [h2, h3, show ¬ (1 ≤ i ∧ i ≤ w) by omega]
      · have h4 : 1 ≤ i ∧ i ≤ w := by omega
        obtain ⟨g1, g2, g3⟩ := h1 rfl h4.1 h4.2
        rw [if_pos ⟨rfl, h4⟩]
        have hw := wrap_u .u64 rfl (x := (y : Int)) (by omega) (by show _ < 2 ^ 64; omega)
        simp only [Bool.not_true, cond_false, h2, h3, decide_false, g1, g2, geti_nat, g3, hw]
end
theorem E33 : EntOK FT XT 33 (en33 f33) := ok33 f53 E53 (fun x w i r h => ⟨0, by
  simp only [f33] at h
  split at h <;> try (cases h; done)
  rename_i hc
  injection h with h; subst h
  refine (p33_is (b := wideB w) rfl (fun hb h1 h2 => ?_)).trans ?_
  · have := wideB_iff.1 hb
    exact isub_i (by omega) (by omega)
  · unfold bitN
    by_cases hcc : wideB w = true ∧ 1 ≤ i ∧ i ≤ w
    · have hw := wideB_iff.1 hcc.1
      rw [if_pos hcc, if_pos hcc]
      obtain ⟨x, rfl⟩ := nat_of hc.1.1
      have hx2 : x < 2 ^ 64 := by have := hc.1.2; exact_mod_cast this
      obtain ⟨m, hm⟩ := nat_of (show 0 ≤ w - i by omega)
      have e1 := ishr_u .u64 x m (by show _ ≤ 64; omega)
      have h3 : x / 2 ^ m < 2 ^ 64 := Nat.lt_of_le_of_lt (Nat.div_le_self _ _) hx2
      have e2 := iand_u .u64 rfl (x / 2 ^ m) 1 h3 (by show _ < 2 ^ 64; omega)
      rw [hm, e1, Int.toNat_natCast, Int.toNat_natCast]
      refine congrArg some (e2.trans ?_)
      rw [Nat.and_one_is_mod]
    · rw [if_neg hcc, if_neg hcc]; rfl⟩)
theorem nI_get (l : List Nat) (j : Nat) : (nI l)[j]? = (l[j]?).map (fun n : Nat => (n : Int)) := by simp [nI]
theorem E34 : EntOK FT XT 34 (en34 f33) := ok34 f55 f56 E55 E56 (fun x w i r h => ⟨0, by
  simp only [f33] at h
  split at h <;> try (cases h; done)
  rename_i hc
  injection h with h; subst h
  by_cases hcc : wideB w = true ∧ 1 ≤ i ∧ i ≤ w
  · have hw := wideB_iff.1 hcc.1
    refine (p34_is (b := wideB w) (r := nI (rowN x.toNat w.toNat)) (y := bitN x w i) rfl (fun hb h1 h2 => ⟨?_, ?_, ?_⟩) (bitN_lt x w i)).trans ?_
    · rw [isub_i (by omega) (by omega)]; omega
    · exact if_pos ⟨hc.1, by omega, by omega⟩
    · rw [nI_get, rowN_get _ _ _ (by omega)]
      unfold bitN
      rw [if_pos hcc, show w.toNat - 1 - (i - 1).toNat = (w - i).toNat by omega]; rfl
    · rw [if_pos hcc]
  · refine (p34_is (b := wideB w) (r := []) (y := 0) rfl (fun hb h1 h2 => absurd ⟨hb, h1, h2⟩ hcc) (by omega)).trans ?_
    rw [if_neg hcc]
    unfold bitN
    rw [if_neg hcc]; rfl⟩)
/-! ### turned and split -/
section
variable {c55 : Int → Option Bool} {c56 : Int → Int → Option (List Int)} {c57 : List Int → Option Int}
theorem p30_bad {x w n : Int} (F : c55 w = some false) : p30 c55 c56 c57 0 x w n = some (0, 1) := by
  rw [p30.eq_def]; simp [F]
theorem p30_is {x w n z : Int} {k : Nat} {r : List Int} (F : c55 w = some true) (hne : ¬ w = 0) (hk : irem (iadd .i64 (irem n w) w) w = (k : Int)) (G : c56 x w = some r) (hl : r.length ≤ 64) (hkl : k ≤ r.length) (J : c57 (r.drop k ++ r.take k) = some z) : p30 c55 c56 c57 0 x w n = some (z, 0) := by
  rw [p30.eq_def]
  have h1 : (r.drop k).length * 1 ≤ 1099511627776 := by simp; omega
  have h2 : (r.drop k).length ≤ 1099511627776 := by simp; omega
  have h3 : ((r.drop k).length + (r.take k).length) * 1 ≤ 1099511627776 := by simp; omega
  have h4 : ((r.drop k).length + (r.take k).length) ≤ 1099511627776 := by simp; omega
  have h5 : List.take ((r.drop k).length + (r.take k).length) (List.drop 0 (r.drop k ++ r.take k)) = r.drop k ++ r.take k := by
    rw [List.drop_zero, List.take_of_length_le (by simp)]
  have h6 : (0 + ((r.drop k).length + (r.take k).length) * 1) ≤ (r.drop k ++ r.take k).length := by simp
  have h7 : ((r.drop k).length == (r.drop k).length * 1) = true := by simp
  simp only [F, Bool.not_true, cond_false, beq_eq_false_iff_ne.2 hne, G, hk, show (0 : Int) ≤ (k : Int) by omega, show (k : Int) ≤ ((r.length : Nat) : Int) by omega, Int.toNat_natCast, decide_true, Bool.and_self, cond_true, h1, h2, h3, h4, h5, h6, h7, J]
theorem p32_bad {x w a : Int} {b : Bool} (F : c55 w = some b) (h : ¬ (b = true ∧ 0 ≤ a ∧ a ≤ w)) : p32 c55 c56 c57 0 x w a = some (0, 0, 1) := by
  rw [p32.eq_def]
  simp only [F]
  cases b with
  | false => simp
  | true =>
    by_cases h2 : a < 0
    · simp [h2]
    · have h3 : a > w := by
        have hh : ¬ a ≤ w := fun hh => h ⟨rfl, by omega, hh⟩
        omega
      simp [h2, h3]
theorem p32_is {x w z1 z2 : Int} {a : Nat} {r : List Int} (F : c55 w = some true) (h : (a : Int) ≤ w) (G : c56 x w = some r) (hl : a ≤ r.length) (J : c57 (r.take a) = some z1) (J2 : c57 (r.drop a) = some z2) : p32 c55 c56 c57 0 x w a = some (z1, z2, 0) := by
  rw [p32.eq_def]
  simp only [F, Bool.not_true, cond_false, show ¬ ((a : Int) < 0) by omega, show ¬ ((a : Int) > w) by omega, decide_false, G, show (0 : Int) ≤ (a : Int) by omega, show (a : Int) ≤ ((r.length : Nat) : Int) by omega, Int.toNat_natCast, decide_true, Bool.and_self, cond_true, J, J2]
end
theorem nI_len (l : List Nat) : (nI l).length = l.length := by simp [nI]
theorem f57_nI (l : List Nat) (h : ∀ b ∈ l, b < 2) (hl : l.length ≤ 64) : f57 (nI l) = some ((wordN l : Nat) : Int) := by
  unfold f57
  rw [if_pos (by rw [nI_len]; omega), word_nI l h hl]
theorem nI_drop (l : List Nat) (k : Nat) : (nI l).drop k = nI (l.drop k) := by simp [nI, List.map_drop]
theorem nI_take (l : List Nat) (k : Nat) : (nI l).take k = nI (l.take k) := by simp [nI, List.map_take]
theorem nI_app (l r : List Nat) : nI l ++ nI r = nI (l ++ r) := by simp [nI]
theorem E30 : EntOK FT XT 30 (en30 f29) := ok30 f55 f56 f57 E55 E56 E57 (fun x w n r h => ⟨0, by
  simp only [f29] at h
  split at h <;> try (cases h; done)
  rename_i hx
  split at h
  · rename_i hw
    injection h with h; subst h
    have hw' := wideB_iff.1 hw
    obtain ⟨w, rfl⟩ := nat_of (show 0 ≤ w by omega)
    have hne : ¬ ((w : Int) = 0) := by omega
    have hem0 := Int.emod_nonneg n hne
    have hem1 := Int.emod_lt_of_pos n (show (0 : Int) < w by omega)
    obtain ⟨k, hk⟩ := nat_of hem0
    have htm := Int.tmod_eq_emod (a := n) (b := w)
    have hrow := rowN_lt x.toNat w
    have hlen := rowN_len x.toNat w
    refine p30_is (r := nI (rowN x.toNat w)) (k := k) (by simp only [f55, hw]) hne ?_ (if_pos ⟨hx, by omega, by omega⟩) (by rw [nI_len, hlen]; omega) (by rw [nI_len, hlen]; omega) ?_
    · have e : ∃ t : Int, irem n w = t ∧ (t = k ∨ t = k - w) := by
        refine ⟨_, rfl, ?_⟩
        show n.tmod w = _ ∨ n.tmod w = _
        rw [htm, hk]; split
        · left; simp
        · right; simp
      obtain ⟨t, ht, htk⟩ := e
      rw [ht]
      rcases htk with rfl | rfl
      · rw [iadd_i (by omega) (by omega)]
        show ((k : Int) + w).tmod w = _
        rw [Int.tmod_eq_emod_of_nonneg (by omega), Int.add_emod_right, Int.emod_eq_of_lt (by omega) (by omega)]
      · rw [iadd_i (by omega) (by omega)]
        show ((k : Int) - w + w).tmod w = _
        rw [Int.tmod_eq_emod_of_nonneg (by omega), Int.sub_add_cancel, Int.emod_eq_of_lt (by omega) (by omega)]
    · rw [nI_drop, nI_take, nI_app, f57_nI _ (fun b hb => hrow b (by
        rcases List.mem_append.1 hb with h | h
        · exact List.mem_of_mem_drop h
        · exact List.mem_of_mem_take h)) (by simp [hlen]; omega), word_turn _ _ _ (by omega) (by omega)]
      simp only [Int.toNat_natCast, hk]
  · rename_i hw
    injection h with h; subst h
    exact p30_bad (by simp only [f55, hw])⟩)
theorem E32 : EntOK FT XT 32 (en32 f31) := ok32 f55 f56 f57 E55 E56 E57 (fun x w a r h => ⟨0, by
  simp only [f31] at h
  split at h <;> try (cases h; done)
  rename_i hx
  split at h
  · rename_i hc
    injection h with h; subst h
    have hw' := wideB_iff.1 hc.1
    obtain ⟨w, rfl⟩ := nat_of (show 0 ≤ w by omega)
    obtain ⟨a, rfl⟩ := nat_of hc.2.1
    have hrow := rowN_lt x.toNat w
    have hlen := rowN_len x.toNat w
    have ha : a ≤ w := by omega
    refine p32_is (r := nI (rowN x.toNat w)) (by simp only [f55, hc.1]) hc.2.2 (if_pos ⟨hx, by omega, by omega⟩) (by rw [nI_len, hlen]; omega) ?_ ?_
    · rw [nI_take, f57_nI _ (fun b hb => hrow b (List.mem_of_mem_take hb)) (by simp [hlen]; omega), word_take _ _ _ ha]
      simp only [Int.toNat_natCast, show ((w : Int) - (a : Int)).toNat = w - a by omega]
    · rw [nI_drop, f57_nI _ (fun b hb => hrow b (List.mem_of_mem_drop hb)) (by simp [hlen]; omega), word_drop _ _ _ ha]
      simp only [Int.toNat_natCast, show ((w : Int) - (a : Int)).toNat = w - a by omega]
  · rename_i hc
    injection h with h; subst h
    exact p32_bad (b := wideB w) rfl hc⟩)
end Go.Proofs.YtgjbkgajkcgdfaaE
