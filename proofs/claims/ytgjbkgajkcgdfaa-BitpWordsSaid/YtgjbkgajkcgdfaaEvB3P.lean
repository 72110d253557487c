/- The law BitpWords: permuted words. -/
import Derived.Test.YtgjbkgajkcgdfaaEvB3V
namespace Go.Proofs.YtgjbkgajkcgdfaaE
open Go
set_option linter.unusedSimpArgs false
set_option linter.unusedVariables false
/-- one bit more -/
def putI (x w : Int) (s : Int × Bool) (i : Int) : Int × Bool := (ior .u64 (ishl .u64 s.1 1) ((bitN x w i : Nat) : Int), s.2 || (decide (i < 1) || decide (i > w)))
def f54 (i : Int) (b : Bool) (ws os xs : List Int) : Option ((Unit × Unit) × ((Bool × Unit) × ((List Int) × ((List Int) × ((List Int) × Unit))))) :=
  match ws, os, xs with
  | [w], [o], [x] => if isW x ∧ -2 ^ 63 ≤ i ∧ i < 2 ^ 63 then some (((), ()), (((putI x w (o, b) i).2, ()), ([w], ([(putI x w (o, b) i).1], ([x], ()))))) else none
  | _, _, _ => none
theorem p54_is {c33 : Int → Int → Int → Option Int} {i w o x z : Int} {b : Bool} (F : c33 x w i = some z) :
    p54v0 c33 0 i b [w] [o] [x] = some (((), ()), ((b || (decide (i < 1) || decide (i > w)), ()), ([w], ([ior .u64 (ishl .u64 o 1) z], ([x], ()))))) := by
  rw [p54v0.eq_def]
  cases b with
  | true => simp [F]
  | false =>
    by_cases h : i < 1
    · simp [F, h]
    · simp [F, h]
theorem E54 : REntOK FT XT 54 (rn54v0 f54) := ok54v0 f33 E33 (fun i b ws os xs r h => ⟨0, by
  unfold f54 at h
  split at h <;> try (cases h; done)
  rename_i w o x
  split at h <;> try (cases h; done)
  rename_i hc
  injection h with h; subst h
  exact p54_is (if_pos hc)⟩)
/-- the words that a table makes -/
def tabI (x w : Int) (t : List Int) : Int × Bool := t.foldl (putI x w) (0, false)
def f27 (x w : Int) (t : List Int) : Option (Int × Int) :=
  if isW x ∧ (∀ i ∈ t, -2 ^ 63 ≤ i ∧ i < 2 ^ 63) then
    (if wideB w = true ∧ t.length ≤ 64 then (if (tabI x w t).2 then some (0, 1) else some ((tabI x w t).1, 0)) else some (0, 1))
  else none
section
variable {c53 : Int → Option Bool} {d54 : Int → Bool → List Int → List Int → List Int → Option ((Unit × Unit) × ((Bool × Unit) × ((List Int) × ((List Int) × ((List Int) × Unit)))))}
theorem p27_bad {x w : Int} {t : List Int} {b : Bool} (F : c53 w = some b) (h : ¬ (b = true ∧ t.length ≤ 64)) : p27 c53 d54 100 x w t = some (0, 1) := by
  rw [p27.eq_def]
  simp only [F]
  cases b with
  | false => simp
  | true =>
    have : ((t.length : Nat) : Int) > 64 := by
      have : ¬ t.length ≤ 64 := fun hh => h ⟨rfl, hh⟩
      omega
    simp [this]
theorem p27_is {x w : Int} {t : List Int} (g : Int × Bool → Int → Int × Bool) (F : c53 w = some true) (hl : t.length ≤ 64)
    (D : ∀ i ∈ t, ∀ s : Int × Bool, d54 i s.2 [w] [s.1] [x] = some (((), ()), (((g s i).2, ()), ([w], ([(g s i).1], ([x], ())))))) :
    p27 c53 d54 100 x w t = some (if (t.foldl g (0, false)).2 then (0, 1) else ((t.foldl g (0, false)).1, 0)) := by
  rw [p27.eq_def]
  simp only [F, Bool.not_true, cond_false, show ¬ (((t.length : Nat) : Int) > 64) by omega, decide_false]
  refine range_fold (L := fun n (s : Int × Bool) i => L27_0 c53 d54 100 (fun (y11 : List Int) (y12 : Bool) => bif y12 then some ((0 : Int), (1 : Int)) else match (y11)[0]? with | none => none | some x13 => some (x13, (0 : Int))) n t ((t.length : Nat) : Int) i [s.1] s.2 [w] [x])
    (g := g) (fin := fun s => if s.2 then (0, 1) else (s.1, 0)) (fun _ _ => True) (fun n s i c _ hci hi => ⟨trivial, ?_⟩) (fun n s _ => ?_) 100 (by omega) (0, false) trivial
  · have hs : iadd .i64 (i : Int) 1 = ((i + 1 : Nat) : Int) := by rw [iadd_i (by omega) (by omega)]; omega
    simp only [L27_0, show (i : Int) < ((t.length : Nat) : Int) by omega, decide_true, cond_true, geti_nat, hci, D c (List.mem_of_getElem? hci) s, hs]
  · simp only [L27_0, Int.lt_irrefl, decide_false, cond_false]
    cases s.2 <;> simp
end
theorem E27 : EntOK FT XT 27 (en27 f27) := ok27 f53 f54 E53 E54 (fun x w t r h => ⟨100, by
  simp only [f27] at h
  split at h <;> try (cases h; done)
  rename_i hc
  split at h
  · rename_i hw
    refine (p27_is (putI x w) (by simp only [f53, hw.1]) hw.2 (fun i hi s => by
      unfold f54
      exact if_pos ⟨hc.1, hc.2 i hi⟩)).trans ?_
    show some (if (tabI x w t).2 then (0, 1) else ((tabI x w t).1, 0)) = _
    split at h <;> (rename_i hh; rw [← h]; simp [hh])
  · rename_i hw
    injection h with h; subst h
    exact p27_bad (b := wideB w) rfl hw⟩)
/-! ### the document's -/
def okT (w : Int) (t : List Int) : Bool := t.all fun i => decide (1 ≤ i) && decide (i ≤ w)
theorem tab_bad (x w : Int) : ∀ (t : List Int) (s : Int × Bool), (t.foldl (putI x w) s).2 = (s.2 || !okT w t)
  | [], s => by simp [okT]
  | i :: t, s => by
    rw [List.foldl_cons, tab_bad x w t]
    simp only [putI, okT, List.all_cons]
    by_cases h1 : i < 1
    · simp [h1, show ¬ 1 ≤ i by omega]
    · by_cases h2 : i > w
      · simp [h1, h2, show ¬ i ≤ w by omega]
      · simp [h1, h2, show 1 ≤ i by omega, show i ≤ w by omega]
theorem tab_word (x w : Int) (t : List Int) (hl : t.length ≤ 64) : (tabI x w t).1 = ((wordN (t.map (bitN x w)) : Nat) : Int) := by
  have key : ∀ (r l : List Int) (b : Bool), (l ++ r).length ≤ 64 → (r.foldl (putI x w) (((wordN (l.map (bitN x w)) : Nat) : Int), b)).1 = ((wordN ((l ++ r).map (bitN x w)) : Nat) : Int) := by
    intro r
    induction r with
    | nil => intro l b _; simp
    | cons i r ih =>
      intro l b hl
      have hb := bitN_lt x w i
      have hlt := wordN_lt (l.map (bitN x w)) (fun c hc => by
        obtain ⟨j, _, rfl⟩ := List.mem_map.1 hc
        exact bitN_lt x w j)
      rw [List.length_map] at hlt
      have hll : l.length < 64 := by simp at hl; omega
      have h2 : 2 ^ l.length * 2 ≤ 2 ^ 64 := by rw [← Nat.pow_succ]; exact Nat.pow_le_pow_right (by omega) (by omega)
      have e : putI x w (((wordN (l.map (bitN x w)) : Nat) : Int), b) i = (((wordN ((l ++ [i]).map (bitN x w)) : Nat) : Int), b || (decide (i < 1) || decide (i > w))) := by
        unfold putI
        congr 1
        rw [List.map_append, List.map_singleton, wordN_snoc]
        have e1 := ishl_u .u64 rfl (wordN (l.map (bitN x w))) 1 (by show _ ≤ 64; omega)
        rw [show (2 : Nat) ^ IntKind.u64.bits = 2 ^ 64 from rfl, Nat.mod_eq_of_lt (by omega)] at e1
        have e2 := ior_u .u64 rfl (wordN (l.map (bitN x w)) * 2 ^ 1) (bitN x w i) (by show _ < 2 ^ 64; omega) (by show _ < 2 ^ 64; omega)
        have e3 := Nat.two_pow_add_eq_or_of_lt (i := 1) (b := bitN x w i) (by omega) (wordN (l.map (bitN x w)))
        rw [Nat.mul_comm, ← e3] at e2
        have e4 : ishl .u64 ((wordN (l.map (bitN x w)) : Nat) : Int) 1 = ((2 ^ 1 * wordN (l.map (bitN x w)) : Nat) : Int) := by rw [Nat.mul_comm]; exact e1
        rw [e4, e2]
      rw [List.foldl_cons, e, ih (l ++ [i]) _ (by simpa using hl)]
      simp
  exact key t [] false (by simpa using hl)
section
variable {c55 : Int → Option Bool} {c56 : Int → Int → Option (List Int)} {c57 : List Int → Option Int}
theorem p28_bad {x w : Int} {t : List Int} {b : Bool} (F : c55 w = some b) (h : ¬ (b = true ∧ t.length ≤ 64)) : p28 c55 c56 c57 100 x w t = some (0, 1) := by
  rw [p28.eq_def]
  simp only [F]
  cases b with
  | false => simp
  | true =>
    have : ((t.length : Nat) : Int) > 64 := by
      have : ¬ t.length ≤ 64 := fun hh => h ⟨rfl, hh⟩
      omega
    simp [this]
def stepP (w : Int) (row : List Int) (s : List Int) (i : Int) : (Int × Int) ⊕ List Int :=
  if 1 ≤ i ∧ i ≤ w then .inr (s ++ [row.getD (i - 1).toNat 0]) else .inl (0, 1)
theorem p28_is {x w : Int} {t row : List Int} (F : c55 w = some true) (hl : t.length ≤ 64) (G : c56 x w = some row) (hr : (row.length : Int) = w) (hw : w ≤ 64) (z : List Int → Int) (J : ∀ l : List Int, l.length ≤ 64 → c57 l = some (z l)) :
    p28 c55 c56 c57 100 x w t = some (runL (stepP w row) (fun s => (z s, 0)) t []) := by
  rw [p28.eq_def]
  simp only [F, Bool.not_true, cond_false, show ¬ (((t.length : Nat) : Int) > 64) by omega, decide_false, G]
  have key := range_run (L := fun n (s : List Int) i => L28_0 c55 c56 c57 100 (fun (y13 : Nat) (y14 : List Int) => bif (decide ((0 + (y13 * 1)) ≤ (List.length y14))) then match c57 (List.take y13 (List.drop 0 y14)) with | none => none | some r15 => some (r15, (0 : Int)) else none) n w t row s.length i s)
    (l := t) (step := stepP w row) (fin := fun s => (z s, 0)) (fun s i => s.length = i) (fun n s i c hp hci hi => ⟨fun s' hs => ?_, ?_⟩) (fun n s hp => ?_) t.length 0 100 [] (by omega) (by omega) rfl
  · exact key
  · unfold stepP at hs
    split at hs
    · injection hs with hs; subst hs; simp [hp]
    · cases hs
  · have hs : iadd .i64 (i : Int) 1 = ((i + 1 : Nat) : Int) := by rw [iadd_i (by omega) (by omega)]; omega
    unfold stepP
    by_cases h1 : c < 1
    · simp only [L28_0, show (i : Int) < ((t.length : Nat) : Int) by omega, decide_true, cond_true, geti_nat, hci, h1, show ¬ (1 ≤ c ∧ c ≤ w) by omega, if_false]
    · by_cases h2 : c > w
      · simp only [L28_0, show (i : Int) < ((t.length : Nat) : Int) by omega, decide_true, cond_true, geti_nat, hci, h1, decide_false, cond_false, h2, show ¬ (1 ≤ c ∧ c ≤ w) by omega, if_false]
      · obtain ⟨j, hj⟩ := nat_of (show 0 ≤ c - 1 by omega)
        have hsub : isub .i64 c 1 = (j : Int) := by rw [isub_i (by omega) (by omega)]; exact hj
        have hjl : j < row.length := by omega
        have hg : row[j]? = some (row.getD j 0) := by rw [List.getElem?_eq_getElem hjl, List.getD_eq_getElem?_getD, List.getElem?_eq_getElem hjl]; rfl
        have hlim1 : (s.length + 1) * 1 ≤ 1099511627776 := by omega
        have hlim2 : s.length + 1 ≤ 1099511627776 := by omega
        have hb : (s.length == s.length * 1) = true := by simp
        rw [if_pos (show 1 ≤ c ∧ c ≤ w by omega), hj, Int.toNat_natCast]
        simp only [L28_0, show (i : Int) < ((t.length : Nat) : Int) by omega, decide_true, cond_true, geti_nat, hci, h1, decide_false, cond_false, h2, hsub, hg, hb, hlim1, hlim2, Bool.and_self, hs, List.length_append, List.length_singleton]
  · have h5 : List.take s.length (List.drop 0 s) = s := by rw [List.drop_zero, List.take_length]
    simp only [L28_0, Int.lt_irrefl, decide_false, cond_false, Nat.mul_one, Nat.zero_add, Nat.le_refl, decide_true, cond_true, h5, J s (by omega)]
end
theorem run_step (w : Int) (row : List Int) (z : List Int → Int) : ∀ (t s : List Int), runL (stepP w row) (fun s => (z s, (0 : Int))) t s = if okT w t then (z (s ++ t.map fun i => row.getD (i - 1).toNat 0), 0) else (0, 1)
  | [], s => by simp [runL, okT]
  | i :: t, s => by
    simp only [runL, stepP]
    by_cases h : 1 ≤ i ∧ i ≤ w
    · rw [if_pos h]
      simp only [run_step w row z t]
      simp [okT, h.1, h.2]
    · rw [if_neg h]
      have : okT w (i :: t) = false := by
        simp only [okT, List.all_cons, Bool.and_eq_false_iff, decide_eq_false_iff_not]
        left; omega
      rw [this]; simp
theorem E28 : EntOK FT XT 28 (en28 f27) := ok28 f55 f56 f57 E55 E56 E57 (fun x w t r h => ⟨100, by
  simp only [f27] at h
  split at h <;> try (cases h; done)
  rename_i hc
  split at h
  · rename_i hw
    have hw' := wideB_iff.1 hw.1
    have hlen := rowN_len x.toNat w.toNat
    refine (p28_is (row := nI (rowN x.toNat w.toNat)) (by simp only [f55, hw.1]) hw.2 (if_pos ⟨hc.1, by omega, by omega⟩) (by rw [nI_len, hlen]; omega) hw'.2 (fun l => l.foldl stepW 0) (fun l hl => if_pos (by omega))).trans ?_
    rw [run_step]
    have hbad := tab_bad x w t (0, false)
    simp only [Bool.false_or] at hbad
    by_cases hok : okT w t = true
    · have e : (tabI x w t).2 = false := by unfold tabI; rw [hbad, hok]; rfl
      rw [e] at h
      simp only [Bool.false_eq_true, if_false] at h
      rw [← h, if_pos hok, tab_word x w t hw.2]
      have e2 : ([] ++ t.map fun i => (nI (rowN x.toNat w.toNat)).getD (i - 1).toNat 0) = nI (t.map (bitN x w)) := by
        simp only [List.nil_append, nI, List.map_map]
        apply List.map_congr_left
        intro i hi
        have h3 := List.all_eq_true.1 hok i hi
        simp only [Bool.and_eq_true, decide_eq_true_eq] at h3
        have h4 : (i - 1).toNat < w.toNat := by omega
        show ((rowN x.toNat w.toNat).map (fun n : Nat => (n : Int))).getD (i - 1).toNat 0 = ((bitN x w i : Nat) : Int)
        rw [List.getD_eq_getElem?_getD, List.getElem?_map, rowN_get _ _ _ h4]
        unfold bitN
        rw [if_pos ⟨hw.1, h3⟩, show w.toNat - 1 - (i - 1).toNat = (w - i).toNat by omega]; rfl
      rw [e2, word_nI _ (fun b hb => by
        obtain ⟨j, _, rfl⟩ := List.mem_map.1 hb
        exact bitN_lt x w j) (by simp; omega)]
    · have e : (tabI x w t).2 = true := by unfold tabI; rw [hbad]; simp at hok; rw [hok]; rfl
      rw [e] at h
      simp only [if_true] at h
      rw [← h, if_neg hok]
  · rename_i hw
    injection h with h; subst h
    exact p28_bad (b := wideB w) rfl hw⟩)
end Go.Proofs.YtgjbkgajkcgdfaaE
