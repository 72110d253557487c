/- Chapter 19: the reframer. -/
import Derived.Test.YteagngpgghnlmaaEvC18P
import Derived.Test.YteagngpgghnlmaaEvOp
namespace Go.Proofs.YteagngpgghnlmaaE
open Go
set_option linter.unusedSimpArgs false
set_option linter.unusedVariables false
set_option maxRecDepth 4000

/-! ### rows of packets -/
abbrev shP : Sh := Sh.pr Sh.bool (Sh.pr (Sh.int .u16) (Sh.pr (Sh.sl (Sh.pr (Sh.int .u8) (Sh.sl (Sh.int .u8)))) (Sh.sl (Sh.int .u8))))
theorem rowsP : ∀ (L : List shP.T) (n : Nat), L.length + 9 ≤ n → ofRows [] [] n shP L.length (flat shP L) = some L
  | [], n, h => by
    obtain ⟨m, rfl⟩ : ∃ m, n = m + 1 := ⟨n - 1, by omega⟩
    rfl
  | (x, y, z, w) :: L, n, h => by
    obtain ⟨m, rfl⟩ : ∃ m, n = m + 9 := ⟨n - 9, by omega⟩
    have ih := rowsP L (m + 8) (by rw [List.length_cons] at h; omega)
    rw [List.length_cons]
    show ((ofCells [] [] (m + 8) shP (V.bool x :: V.int .u16 y :: V.tb shA z :: V.tb (.int .u8) w :: flat shP L)).bind fun p => (ofRows [] [] (m + 8) shP L.length p.2).map fun q => p.1 :: q) = _
    have e : ofCells [] [] (m + 8) shP (V.bool x :: V.int .u16 y :: V.tb shA z :: V.tb (.int .u8) w :: flat shP L) = some ((x, y, z, w), flat shP L) := rfl
    rw [e, Option.bind_some, ih]
    rfl
theorem flatP_len : ∀ L : List shP.T, (flat shP L).length = L.length * 4
  | [] => rfl
  | (x, y, z, w) :: L => by
    show (V.bool x :: V.int .u16 y :: V.tb shA z :: V.tb (.int .u8) w :: flat shP L).length = _
    rw [List.length_cons, List.length_cons, List.length_cons, List.length_cons, flatP_len L, List.length_cons]
    omega
theorem flatP_snoc (l : List shP.T) (p : shP.T) : flat shP (l ++ [p]) = flat shP l ++ [V.bool p.1, V.int .u16 p.2.1, V.tb shA p.2.2.1, V.tb (.int .u8) p.2.2.2] := by
  unfold flat; rw [List.flatMap_append]; rfl
theorem flatP_app (l m : List shP.T) : flat shP (l ++ m) = flat shP l ++ flat shP m := by unfold flat; rw [List.flatMap_append]
theorem rowsP_at {k : Nat} {l : List shP.T} (hk : k = l.length) (h : l.length ≤ 80000) : rowsOf shP k (List.take (k * 4) (List.drop 0 (flat shP l))) = some l := by
  have hl : k * 4 = (flat shP l).length := by rw [flatP_len, hk]
  rw [hl, List.drop_zero, List.take_length, hk]; exact rowsP l 90000 (by omega)
def kI (l : List Pk) : List shP.T := l.map enK
theorem kI_len (l : List Pk) : (kI l).length = l.length := List.length_map ..
theorem kI_snoc (l : List Pk) (p : Pk) : kI (l ++ [p]) = kI l ++ [enK p] := by simp [kI]
theorem kI_app (l m : List Pk) : kI (l ++ m) = kI l ++ kI m := by simp [kI]
/-! ### what is drained -/
def drn : Nat → List Nat → List Pk × List Nat × Nat × Nat
  | 0, b => ([], b, 0, 0)
  | k + 1, b =>
    if (len18 b).2 = 4 then ([], b, 0, 0) else if (len18 b).2 ≠ 0 then ([], [], (len18 b).2, 0) else if b.length < (len18 b).1 then ([], b, 0, 0)
    else if (parse18 (b.take (len18 b).1)).2 ≠ 0 then ([], [], (parse18 (b.take (len18 b).1)).2, 0)
    else ((parse18 (b.take (len18 b).1)).1 :: (drn k (b.drop (len18 b).1)).1, (drn k (b.drop (len18 b).1)).2.1, (drn k (b.drop (len18 b).1)).2.2.1, (len18 b).1 + (drn k (b.drop (len18 b).1)).2.2.2)
def D (b : List Nat) := drn (b.length + 1) b
theorem len18_4 {b : List Nat} : (len18 b).2 = 4 ↔ b.length < 4 := by
  constructor
  · intro h
    match b, h with
    | [], _ => simp
    | [_], _ => simp
    | [_, _], _ => simp
    | [_, _, _], _ => simp
    | w :: x :: y :: v :: r, h =>
      exfalso
      unfold len18 at h
      by_cases h1 : w ≠ 16
      · simp only [if_pos h1] at h; cases h
      by_cases h2 : 1 < x ∨ y * 256 + v < (if x = 1 then 8 else 5) ∨ 4095 < y * 256 + v
      · simp only [if_neg h1, if_pos h2] at h; cases h
      · simp only [if_neg h1, if_neg h2] at h; cases h
  · exact fun h => by rw [len18_short h]
theorem len18_app {a b : List Nat} (h : ¬ a.length < 4) : len18 (a ++ b) = len18 a := by
  match a, h with
  | [], h => exact absurd (by simp) h
  | [_], h => exact absurd (by simp) h
  | [_, _], h => exact absurd (by simp) h
  | [_, _, _], h => exact absurd (by simp) h
  | w :: x :: y :: v :: r, _ => rfl
theorem len18_5 {b : List Nat} (h : (len18 b).2 = 0) : 5 ≤ (len18 b).1 ∧ (len18 b).1 ≤ 4095 ∧ ¬ b.length < 4 := by
  obtain ⟨x, y, v, r, rfl, _, h1, _, h3, h4⟩ := len18_ok h
  rw [h1]
  exact ⟨h3, h4, by simp⟩
theorem drn_0 {k : Nat} {b : List Nat} (h : (len18 b).2 = 4) : drn (k + 1) b = ([], b, 0, 0) := if_pos h
theorem drn_1 {k : Nat} {b : List Nat} (h : (len18 b).2 ≠ 4) (h2 : (len18 b).2 ≠ 0) : drn (k + 1) b = ([], [], (len18 b).2, 0) := (if_neg h).trans (if_pos h2)
theorem drn_2 {k : Nat} {b : List Nat} (h2 : (len18 b).2 = 0) (h3 : b.length < (len18 b).1) : drn (k + 1) b = ([], b, 0, 0) := (if_neg (by omega)).trans ((if_neg (fun g => g h2)).trans (if_pos h3))
theorem drn_3 {k : Nat} {b : List Nat} (h2 : (len18 b).2 = 0) (h3 : ¬ b.length < (len18 b).1) (h4 : (parse18 (b.take (len18 b).1)).2 ≠ 0) : drn (k + 1) b = ([], [], (parse18 (b.take (len18 b).1)).2, 0) :=
  (if_neg (by omega)).trans ((if_neg (fun g => g h2)).trans ((if_neg h3).trans (if_pos h4)))
theorem drn_4 {k : Nat} {b : List Nat} (h2 : (len18 b).2 = 0) (h3 : ¬ b.length < (len18 b).1) (h4 : (parse18 (b.take (len18 b).1)).2 = 0) : drn (k + 1) b = ((parse18 (b.take (len18 b).1)).1 :: (drn k (b.drop (len18 b).1)).1, (drn k (b.drop (len18 b).1)).2.1, (drn k (b.drop (len18 b).1)).2.2.1, (len18 b).1 + (drn k (b.drop (len18 b).1)).2.2.2) :=
  (if_neg (by omega)).trans ((if_neg (fun g => g h2)).trans ((if_neg h3).trans (if_neg (fun g => g h4))))
theorem drn_fuel : ∀ (k m : Nat) (b : List Nat), b.length < k → b.length < m → drn k b = drn m b
  | 0, _, _, h, _ => by omega
  | _, 0, _, _, h => by omega
  | k + 1, m + 1, b, hk, hm => by
    by_cases h1 : (len18 b).2 = 4
    · rw [drn_0 h1, drn_0 h1]
    by_cases h2 : (len18 b).2 = 0
    · by_cases h3 : b.length < (len18 b).1
      · rw [drn_2 h2 h3, drn_2 h2 h3]
      by_cases h4 : (parse18 (b.take (len18 b).1)).2 = 0
      · have := len18_5 h2
        rw [drn_4 h2 h3 h4, drn_4 h2 h3 h4, drn_fuel k m (b.drop (len18 b).1) (by rw [List.length_drop]; omega) (by rw [List.length_drop]; omega)]
      · rw [drn_3 h2 h3 h4, drn_3 h2 h3 h4]
    · rw [drn_1 h1 h2, drn_1 h1 h2]
theorem D_4 {b : List Nat} (h2 : (len18 b).2 = 0) (h3 : ¬ b.length < (len18 b).1) (h4 : (parse18 (b.take (len18 b).1)).2 = 0) : D b = ((parse18 (b.take (len18 b).1)).1 :: (D (b.drop (len18 b).1)).1, (D (b.drop (len18 b).1)).2.1, (D (b.drop (len18 b).1)).2.2.1, (len18 b).1 + (D (b.drop (len18 b).1)).2.2.2) := by
  have := len18_5 h2
  unfold D
  rw [drn_4 h2 h3 h4, drn_fuel b.length ((b.drop (len18 b).1).length + 1) (b.drop (len18 b).1) (by rw [List.length_drop]; omega) (by omega)]
/-- bytes in pieces are drained as they are in one -/
theorem D_app : ∀ (k : Nat) (a b : List Nat), a.length < k → D (a ++ b) = if (D a).2.2.1 = 0 then ((D a).1 ++ (D ((D a).2.1 ++ b)).1, (D ((D a).2.1 ++ b)).2.1, (D ((D a).2.1 ++ b)).2.2.1, (D a).2.2.2 + (D ((D a).2.1 ++ b)).2.2.2) else D a
  | 0, a, _, h => by omega
  | k + 1, a, b, hk => by
    by_cases h1 : (len18 a).2 = 4
    · rw [show D a = ([], a, 0, 0) from drn_0 h1, if_pos rfl]; simp
    have hl : ¬ a.length < 4 := fun g => h1 (len18_4.2 g)
    have e := len18_app (b := b) hl
    by_cases h2 : (len18 a).2 = 0
    · by_cases h3 : a.length < (len18 a).1
      · rw [show D a = ([], a, 0, 0) from drn_2 h2 h3, if_pos rfl]; simp
      have h3' : ¬ (a ++ b).length < (len18 (a ++ b)).1 := by rw [e, List.length_append]; omega
      have h5 := len18_5 h2
      have et : (a ++ b).take (len18 (a ++ b)).1 = a.take (len18 a).1 := by rw [e, List.take_append_of_le_length (by omega)]
      have ed : (a ++ b).drop (len18 (a ++ b)).1 = a.drop (len18 a).1 ++ b := by rw [e, List.drop_append_of_le_length (by omega)]
      by_cases h4 : (parse18 (a.take (len18 a).1)).2 = 0
      · have ih := D_app k (a.drop (len18 a).1) b (by rw [List.length_drop]; omega)
        rw [D_4 (by rw [e]; exact h2) h3' (by rw [et]; exact h4), et, ed, e, D_4 h2 h3 h4, ih]
        by_cases g : (D (a.drop (len18 a).1)).2.2.1 = 0
        · rw [if_pos g, if_pos g]; simp [Nat.add_assoc]
        · rw [if_neg g, if_neg g]
      · have e1 : D (a ++ b) = _ := drn_3 (by rw [e]; exact h2) h3' (by rw [et]; exact h4)
        have e2 : D a = _ := drn_3 h2 h3 h4
        rw [et] at e1
        rw [e1, e2, if_neg h4]
    · have e1 : D (a ++ b) = _ := drn_1 (by rw [e]; exact h1) (by rw [e]; exact h2)
      have e2 : D a = _ := drn_1 h1 h2
      rw [e] at e1
      rw [e1, e2, if_neg h2]
/-- what is held is less than a packet -/
def stuck (h : List Nat) : Prop := (len18 h).2 = 4 ∨ ((len18 h).2 = 0 ∧ h.length < (len18 h).1)
theorem stuck_lt {h : List Nat} (s : stuck h) : h.length < 4095 := by
  rcases s with s | ⟨s, t⟩
  · have := len18_4.1 s; omega
  · have := len18_5 s; omega
theorem D_is : ∀ (k : Nat) (b : List Nat), b.length < k → ((D b).2.2.1 = 0 → stuck (D b).2.1 ∧ (D b).2.2.2 + (D b).2.1.length = b.length ∧ (D b).2.1 = b.drop (D b).2.2.2) ∧ ((D b).2.2.1 ≠ 0 → (D b).2.1 = []) ∧ 5 * (D b).1.length ≤ (D b).2.2.2 ∧ (D b).2.2.2 ≤ b.length
  | 0, _, h => by omega
  | k + 1, b, hk => by
    by_cases h1 : (len18 b).2 = 4
    · rw [show D b = ([], b, 0, 0) from drn_0 h1]
      exact ⟨fun _ => ⟨.inl h1, by simp, by simp⟩, fun g => absurd rfl g, Nat.le_refl _, Nat.zero_le _⟩
    by_cases h2 : (len18 b).2 = 0
    · by_cases h3 : b.length < (len18 b).1
      · rw [show D b = ([], b, 0, 0) from drn_2 h2 h3]
        exact ⟨fun _ => ⟨.inr ⟨h2, h3⟩, by simp, by simp⟩, fun g => absurd rfl g, Nat.le_refl _, Nat.zero_le _⟩
      have h5 := len18_5 h2
      by_cases h4 : (parse18 (b.take (len18 b).1)).2 = 0
      · obtain ⟨i1, i2, i3, i4⟩ := D_is k (b.drop (len18 b).1) (by rw [List.length_drop]; omega)
        rw [D_4 h2 h3 h4]
        rw [List.length_drop] at i1 i4
        refine ⟨fun g => ?_, i2, ?_, ?_⟩
        · obtain ⟨j1, j2, j3⟩ := i1 g
          refine ⟨j1, ?_, ?_⟩
          · show (len18 b).1 + (D (b.drop (len18 b).1)).2.2.2 + (D (b.drop (len18 b).1)).2.1.length = b.length; omega
          · show (D (b.drop (len18 b).1)).2.1 = b.drop ((len18 b).1 + (D (b.drop (len18 b).1)).2.2.2)
            rw [← List.drop_drop]; exact j3
        · show 5 * ((D (b.drop (len18 b).1)).1.length + 1) ≤ (len18 b).1 + _; omega
        · show (len18 b).1 + _ ≤ _; omega
      · rw [show D b = _ from drn_3 h2 h3 h4]
        exact ⟨fun g => absurd g h4, fun _ => rfl, Nat.le_refl _, Nat.zero_le _⟩
    · rw [show D b = _ from drn_1 h1 h2]
      exact ⟨fun g => absurd g h2, fun _ => rfl, Nat.le_refl _, Nat.zero_le _⟩
theorem D_good : ∀ (k : Nat) (b : List Nat), b.length < k → bel 256 b → ∀ p ∈ (D b).1, gK p
  | 0, _, h, _ => by omega
  | k + 1, b, hk, hb => by
    by_cases h1 : (len18 b).2 = 4
    · rw [show D b = ([], b, 0, 0) from drn_0 h1]; exact fun p hp => by cases hp
    by_cases h2 : (len18 b).2 = 0
    · by_cases h3 : b.length < (len18 b).1
      · rw [show D b = ([], b, 0, 0) from drn_2 h2 h3]; exact fun p hp => by cases hp
      have h5 := len18_5 h2
      by_cases h4 : (parse18 (b.take (len18 b).1)).2 = 0
      · have ih := D_good k (b.drop (len18 b).1) (by rw [List.length_drop]; omega) (bel_drop hb)
        rw [D_4 h2 h3 h4]
        intro p hp
        rcases List.mem_cons.1 hp with rfl | hp
        · exact parse18_good (bel_take hb) (by rw [List.length_take]; omega)
        · exact ih p hp
      · rw [show D b = _ from drn_3 h2 h3 h4]; exact fun p hp => by cases hp
    · rw [show D b = _ from drn_1 h1 h2]; exact fun p hp => by cases hp
/-! ### the stream's functions -/
abbrev RetS := Bool × (List Int × (Int × (Int × (Int × Unit))))
abbrev stI (h : List Nat) (e c a : Nat) : RetS := (true, (nI h, ((e : Int), ((c : Int), ((a : Int), ())))))
abbrev outW (l : List Pk) (e0 : Nat) (h : List Nat) (e c a : Nat) : (((List shP.T) × (Int × Unit)) × Unit) × (RetS × Unit) := (((kI l, ((e0 : Int), ())), ()), (stI h e c a, ()))
/-- what a piece brings -/
def wrS (b h : List Nat) (e c a : Nat) : List Pk × Nat × List Nat × Nat × Nat × Nat :=
  if e = 0 then ((D (h ++ b)).1, (D (h ++ b)).2.2.1, (D (h ++ b)).2.1, (D (h ++ b)).2.2.1, c + (D (h ++ b)).1.length, a + (D (h ++ b)).2.2.2) else ([], e, h, e, c, a)
theorem L348_is {N : Nat} {q : Nat → Bool → List Int → Int → Int → Int → List V → Option ((((List (Bool × Int × (List (Int × (List Int))) × (List Int))) × (Int × Unit)) × Unit) × ((Bool × ((List Int) × (Int × (Int × (Int × Unit))))) × Unit))} : ∀ (k : Nat) (b : List Nat) (acc : List Pk) (c a n : Nat), b.length < k → n = acc.length → bel 256 b → b.length ≤ 100000 → acc.length + b.length ≤ 100000 → c + a + 2 * b.length ≤ 1000000 →
    L348v2_0 f108 h343 h341 N q k n true (nI b) 0 (c : Int) (a : Int) (flat shP (kI acc)) = q (acc ++ (D b).1).length true (nI (D b).2.1) ((D b).2.2.1 : Int) ((c + (D b).1.length : Nat) : Int) ((a + (D b).2.2.2 : Nat) : Int) (flat shP (kI (acc ++ (D b).1)))
  | 0, _, _, _, _, _, h, _, _, _, _, _ => by omega
  | k + 1, b, acc, c, a, n, hk, hn, hb, hl, ha, hc => by
    rw [L348v2_0, h343_is hb]
    simp only [enN]
    by_cases h1 : (len18 b).2 = 4
    · rw [show D b = ([], b, 0, 0) from drn_0 h1, h1, show (((4 : Nat) : Int) == 4) = true from rfl, cond_true, List.append_nil, hn]; rfl
    rw [beq_eq_false_iff_ne.2 (show (((len18 b).2 : Nat) : Int) ≠ 4 by omega), cond_false]
    by_cases h2 : (len18 b).2 = 0
    · rw [h2, show (((0 : Nat) : Int) != 0) = false from rfl, cond_false, cond_false, nI_len]
      by_cases h3 : b.length < (len18 b).1
      · rw [show D b = ([], b, 0, 0) from drn_2 h2 h3, decide_eq_true (by omega), cond_true, List.append_nil, hn]; rfl
      have h5 := len18_5 h2
      rw [decide_eq_false (by omega), cond_false, decide_eq_true (show (0 : Int) ≤ (((len18 b).1 : Nat) : Int) by omega), decide_eq_true (show (((len18 b).1 : Nat) : Int) ≤ ((b.length : Nat) : Int) by omega), Bool.and_self, cond_true, Int.toNat_natCast, nI_take, h341_is (bel_take hb) (by rw [List.length_take]; omega)]
      simp only [enQ]
      by_cases h4 : (parse18 (b.take (len18 b).1)).2 = 0
      · have ih := L348_is (N := N) (q := q) k (b.drop (len18 b).1) (acc ++ [(parse18 (b.take (len18 b).1)).1]) (c + 1) (a + (len18 b).1) (n + 1) (by rw [List.length_drop]; omega) (by simp [hn]) (bel_drop hb) (by rw [List.length_drop]; omega) (by simp; omega) (by rw [List.length_drop]; omega)
        have e1 : iadd .i64 ((c : Nat) : Int) 1 = ((c + 1 : Nat) : Int) := addn (b := 1) (by omega)
        have e2 : iadd .i64 ((a : Nat) : Int) (((len18 b).1 : Nat) : Int) = ((a + (len18 b).1 : Nat) : Int) := addn (by omega)
        rw [kI_snoc, flatP_snoc] at ih
        rw [h4, show (((0 : Nat) : Int) != 0) = false from rfl, cond_false, cond_true, flatP_len, kI_len, show (acc.length * 4 == n * 4) = true from beq_iff_eq.2 (by omega), decide_eq_true (by omega), decide_eq_true (by omega), Bool.and_self, Bool.and_self, cond_true, nI_drop, e1, e2]
        refine ih.trans ?_
        rw [D_4 h2 h3 h4]
        simp only [List.append_assoc, List.cons_append, List.nil_append, List.length_cons, Nat.add_assoc, Nat.add_comm 1]
      · rw [show D b = _ from drn_3 h2 h3 h4, bne_iff_ne.2 (show (((parse18 (b.take (len18 b).1)).2 : Nat) : Int) ≠ 0 by omega), cond_true, cond_true, List.append_nil, hn]; rfl
    · rw [show D b = _ from drn_1 h1 h2, bne_iff_ne.2 (show (((len18 b).2 : Nat) : Int) ≠ 0 by omega), cond_true, cond_true, List.append_nil, hn]; rfl
def h348 (b : List Int) (m : Bool) (h : List Int) (e c a : Int) := p348v2 f108 h343 h341 20000 b m h e c a
theorem R348 : REntOK FT XT 348 (rn348v2 h348) := ok348v2 f108 h343 h341 E108 E343 E341 fun _ _ _ _ _ _ _ h => ⟨20000, h⟩
theorem h348_is {b h : List Nat} {e c a : Nat} (hb : bel 256 b) (hh : bel 256 h) (hl : h.length + b.length ≤ 15000) (hc : c + a ≤ 500000) : h348 (nI b) true (nI h) (e : Int) (c : Int) (a : Int) = some (outW (wrS b h e c a).1 (wrS b h e c a).2.1 (wrS b h e c a).2.2.1 (wrS b h e c a).2.2.2.1 (wrS b h e c a).2.2.2.2.1 (wrS b h e c a).2.2.2.2.2) := by
  unfold h348 p348v2 wrS
  rw [Bool.not_true, cond_false]
  by_cases he : e = 0
  · subst he
    rw [show (((0 : Nat) : Int) != 0) = false from rfl, cond_false, f108_is (by rw [nI_len]; omega)]
    simp only [nI_len, if_true]
    rw [show (h.length == h.length * 1) = true from beq_iff_eq.2 (by omega), decide_eq_true (by omega), decide_eq_true (by omega), Bool.and_self, Bool.and_self, cond_true, nI_app, nI_len, List.length_append, decide_eq_true (by omega), cond_true, List.drop_zero, List.take_of_length_le (by rw [nI_len, List.length_append]; exact Nat.le_refl _)]
    refine (L348_is (N := 20000) 20000 (h ++ b) [] c a 0 (by rw [List.length_append]; omega) rfl (bel_app hh hb) (by rw [List.length_append]; omega) (by rw [List.length_append]; simp; omega) (by rw [List.length_append]; omega)).trans ?_
    obtain ⟨_, _, d3, d4⟩ := D_is _ (h ++ b) (Nat.lt_succ_self _)
    rw [List.length_append] at d4
    rw [List.nil_append, flatP_len, kI_len, decide_eq_true (by omega), cond_true, rowsP_at (kI_len _).symm (by rw [kI_len]; omega)]
  · rw [bne_iff_ne.2 (by omega), cond_true, if_neg he]; rfl
def h349 (m : Bool) (h : List Int) (e c a : Int) := p349v1 0 m h e c a
theorem R349 : REntOK FT XT 349 (rn349v1 h349) := ok349v1 fun _ _ _ _ _ _ h => ⟨0, h⟩
theorem h349_is (h : List Nat) (e c a : Nat) : h349 true (nI h) (e : Int) (c : Int) (a : Int) = some ((((h.length : Nat) : Int), ()), (stI h e c a, ())) := by
  unfold h349 p349v1; rw [nI_len]; rfl
def h350 (m : Bool) (h : List Int) (e c a : Int) := p350v1 0 m h e c a
theorem R350 : REntOK FT XT 350 (rn350v1 h350) := ok350v1 fun _ _ _ _ _ _ h => ⟨0, h⟩
theorem h350_is (h : List Nat) (e c a : Nat) : h350 true (nI h) (e : Int) (c : Int) (a : Int) = some (((c : Int), ()), (stI h e c a, ())) := rfl
def h351 (m : Bool) (h : List Int) (e c a : Int) := p351v1 0 m h e c a
theorem R351 : REntOK FT XT 351 (rn351v1 h351) := ok351v1 fun _ _ _ _ _ _ h => ⟨0, h⟩
theorem h351_is (h : List Nat) (e c a : Nat) : h351 true (nI h) (e : Int) (c : Int) (a : Int) = some (((a : Int), ()), (stI h e c a, ())) := rfl
def wantZ (h : List Nat) (e : Nat) : Int := if e ≠ 0 then 0 else if (len18 h).2 ≠ 0 then 4 - ((h.length : Nat) : Int) else (((len18 h).1 : Nat) : Int) - ((h.length : Nat) : Int)
def h352 (m : Bool) (h : List Int) (e c a : Int) := p352v1 h343 0 m h e c a
theorem R352 : REntOK FT XT 352 (rn352v1 h352) := ok352v1 h343 E343 fun _ _ _ _ _ _ h => ⟨0, h⟩
theorem subz {x y : Int} (h1 : -1000000 ≤ x - y) (h2 : x - y ≤ 1000000) : isub .i64 x y = x - y := by
  unfold isub; exact wrap_i64 (by omega) (by omega)
theorem h352_is {h : List Nat} (e c a : Nat) (hh : bel 256 h) (hl : h.length ≤ 100000) : h352 true (nI h) (e : Int) (c : Int) (a : Int) = some ((wantZ h e, ()), (stI h e c a, ())) := by
  unfold h352 p352v1 wantZ
  rw [Bool.not_true, cond_false]
  by_cases he : e = 0
  · subst he
    rw [show (((0 : Nat) : Int) != 0) = false from rfl, cond_false, h343_is hh, if_neg (fun g => g rfl)]
    simp only [enN, nI_len]
    by_cases h2 : (len18 h).2 = 0
    · have := len18_5 h2
      rw [h2, show (((0 : Nat) : Int) != 0) = false from rfl, cond_false, if_neg (fun g => g rfl), subz (by omega) (by omega)]
    · rw [bne_iff_ne.2 (by omega), cond_true, if_pos h2, subz (by omega) (by omega)]
  · rw [bne_iff_ne.2 (by omega), cond_true, if_pos he]
def f347 : Option Bool := some true
theorem E347 : EntOK FT XT 347 (en347 f347) := ok347 h316 h317 h348 h352 h351 h349 h350 E316 E317 R348 R352 R351 R349 R350 fun r h => ⟨0, by rw [← h]; kernel_rfl⟩
/-! ### pieces -/
def pI (ps : List (List Nat)) : List (List Int) := ps.map nI
theorem pI_len (ps : List (List Nat)) : (pI ps).length = ps.length := List.length_map ..
theorem pI_at (pre t : List (List Nat)) (x : List Nat) : geti (pI (pre ++ x :: t)) ((pre.length : Nat) : Int) = some (nI x) := by
  rw [geti_nat, pI, List.getElem?_map, List.getElem?_append_right (Nat.le_refl _), Nat.sub_self]; rfl
theorem any_lt {α : Type} (pre t : List α) (x : α) : decide (((pre.length : Nat) : Int) < (((pre ++ x :: t).length : Nat) : Int)) = true := by simp; omega
theorem any_end {α : Type} (pre : List α) : decide (((pre.length : Nat) : Int) < (((pre ++ ([] : List α)).length : Nat) : Int)) = false := by simp
theorem any_app {α : Type} (pre t : List α) (x : α) : pre ++ x :: t = pre ++ [x] ++ t := by simp
theorem any_inc {α : Type} (pre : List α) (x : α) (h : pre.length ≤ 100000) : iadd .i64 ((pre.length : Nat) : Int) 1 = (((pre ++ [x]).length : Nat) : Int) := by
  rw [show (pre ++ [x]).length = pre.length + 1 by simp]; exact addn (a := pre.length) (b := 1) (by omega)
abbrev shB : Sh := Sh.sl (Sh.int .u8)
theorem rowsB : ∀ (L : List shB.T) (n : Nat), L.length + 5 ≤ n → ofRows [] [] n shB L.length (flat shB L) = some L
  | [], n, h => by
    obtain ⟨m, rfl⟩ : ∃ m, n = m + 1 := ⟨n - 1, by omega⟩
    rfl
  | x :: L, n, h => by
    obtain ⟨m, rfl⟩ : ∃ m, n = m + 5 := ⟨n - 5, by omega⟩
    have ih := rowsB L (m + 4) (by rw [List.length_cons] at h; omega)
    rw [List.length_cons]
    show ((ofCells [] [] (m + 4) shB (V.tb (.int .u8) x :: flat shB L)).bind fun p => (ofRows [] [] (m + 4) shB L.length p.2).map fun q => p.1 :: q) = _
    have e : ofCells [] [] (m + 4) shB (V.tb (.int .u8) x :: flat shB L) = some (x, flat shB L) := rfl
    rw [e, Option.bind_some, ih]
    rfl
theorem flatB_len : ∀ L : List shB.T, (flat shB L).length = L.length * 1
  | [] => rfl
  | x :: L => by
    show (V.tb (.int .u8) x :: flat shB L).length = _
    rw [List.length_cons, flatB_len L, List.length_cons]
    omega
theorem flatB_snoc (l : List shB.T) (p : shB.T) : flat shB (l ++ [p]) = flat shB l ++ [V.tb (.int .u8) p] := by
  unfold flat; rw [List.flatMap_append]; rfl
theorem rowsB_at {k : Nat} {l : List shB.T} (hk : k = l.length) (h : l.length ≤ 80000) : rowsOf shB k (List.take (k * 1) (List.drop 0 (flat shB l))) = some l := by
  have hl : k * 1 = (flat shB l).length := by rw [flatB_len, hk]
  rw [hl, List.drop_zero, List.take_length, hk]; exact rowsB l 90000 (by omega)
def cutS : List Nat → List Nat → List (List Nat)
  | [], b => [b]
  | n :: t, b => b.take (n % (b.length + 1)) :: cutS t (b.drop (n % (b.length + 1)))
theorem cutS_flat : ∀ (t b : List Nat), (cutS t b).flatten = b
  | [], b => by simp [cutS]
  | n :: t, b => by rw [cutS, List.flatten_cons, cutS_flat t, List.take_append_drop]
theorem cutS_len : ∀ (t b : List Nat), (cutS t b).length = t.length + 1
  | [], b => rfl
  | n :: t, b => by rw [cutS, List.length_cons, cutS_len t, List.length_cons]
theorem L354_is {N : Nat} {q : List Int → Nat → List V → Option (List (List Int))} (hq : ∀ (b : List Nat) (acc : List (List Nat)), acc.length ≤ 100 → q (nI b) acc.length (flat shB (pI acc)) = some (pI (acc ++ [b]))) : ∀ (t pre b : List Nat) (acc : List (List Nat)) (k fuel : Nat), k = acc.length → t.length < fuel → bel 65536 t → b.length ≤ 100000 → (pre ++ t).length ≤ 100 → acc.length + t.length ≤ 100 →
    L354_0 N q fuel (nI b) k (nI (pre ++ t)) (((pre ++ t).length : Nat) : Int) ((pre.length : Nat) : Int) (flat shB (pI acc)) = some (pI (acc ++ cutS t b))
  | [], pre, b, acc, k, fuel + 1, hk, _, _, _, _, ha => by
    rw [L354_0, any_end, cond_false, hk, hq b acc (by simpa using ha)]; rfl
  | x :: t, pre, b, acc, k, fuel + 1, hk, hf, ht, hb, hn, ha => by
    have hn2 : pre.length + t.length + 1 ≤ 100 := by simpa [Nat.add_assoc] using hn
    rw [List.length_cons] at ha
    have hx : x < 65536 := ht x (by simp)
    have e0 : geti (nI (pre ++ x :: t)) ((pre.length : Nat) : Int) = some ((x : Nat) : Int) := by
      rw [geti_nat, nI_get, List.getElem?_append_right (Nat.le_refl _), Nat.sub_self]; rfl
    have hr : x % (b.length + 1) < b.length + 1 := Nat.mod_lt _ (by omega)
    have ih := L354_is (N := N) hq t (pre ++ [x]) (b.drop (x % (b.length + 1))) (acc ++ [b.take (x % (b.length + 1))]) (k + 1) fuel (by simp [hk]) (by simpa using hf) (fun z hz => ht z (by simp [hz])) (by rw [List.length_drop]; omega) (by rw [← any_app]; exact hn) (by simp; omega)
    have e1 : iadd .i64 ((b.length : Nat) : Int) 1 = ((b.length + 1 : Nat) : Int) := addn (b := 1) (by omega)
    rw [show pI (acc ++ [b.take (x % (b.length + 1))]) = pI acc ++ [nI (b.take (x % (b.length + 1)))] by simp [pI], flatB_snoc, ← any_app pre t x] at ih
    rw [L354_0, any_lt, cond_true, e0]
    simp only [nI_len, e1, wrap_i64 (x := ((x : Nat) : Int)) (by omega) (by omega), irem_n, Int.toNat_natCast, nI_take, nI_drop]
    show _ = some (pI (acc ++ (b.take (x % (b.length + 1)) :: cutS t (b.drop (x % (b.length + 1))))))
    generalize x % (b.length + 1) = r at *
    rw [beq_eq_false_iff_ne.2 (show ((b.length + 1 : Nat) : Int) ≠ 0 by omega), cond_false, decide_eq_true (show (0 : Int) ≤ ((r : Nat) : Int) by omega), decide_eq_true (show ((r : Nat) : Int) ≤ ((b.length : Nat) : Int) by omega), Bool.and_self, cond_true, flatB_len, pI_len, show (acc.length * 1 == k * 1) = true from beq_iff_eq.2 (by omega), decide_eq_true (by omega), decide_eq_true (by omega), Bool.and_self, Bool.and_self, cond_true, cond_true, any_inc pre x (by omega)]
    rw [ih, List.append_assoc]; rfl
theorem min20 (n : Nat) : (if (20 : Int) < ((n : Nat) : Int) then (20 : Int) else ((n : Nat) : Int)) = ((min n 20 : Nat) : Int) := by split <;> omega
def h354 (b t : List Int) := p354 100 b t
theorem E354 : EntOK FT XT 354 (en354 h354) := ok354 fun _ _ _ h => ⟨100, h⟩
theorem h354_is {b t : List Nat} (hb : b.length ≤ 100000) (ht : bel 65536 t) : ∃ ps : List (List Nat), h354 (nI b) (nI t) = some (pI ps) ∧ ps.flatten = b ∧ ps.length ≤ 21 := by
  refine ⟨cutS (t.take (min t.length 20)) b, ?_, cutS_flat _ _, by rw [cutS_len, List.length_take]; omega⟩
  have hl : (t.take (min t.length 20)).length ≤ 20 := by rw [List.length_take]; omega
  unfold h354 p354
  simp only [nI_len, min20, Int.toNat_natCast, nI_take]
  rw [decide_eq_true (by omega), decide_eq_true (by omega), Bool.and_self, cond_true]
  refine (L354_is (N := 100) (fun b acc ha => ?_) (t.take (min t.length 20)) [] b [] 0 100 rfl (by omega) (bel_take ht) hb (by simp; omega) (by simp; omega)).trans (by rw [List.nil_append])
  have e : flat shB (pI acc) ++ [V.tb (.int .u8) (nI b)] = flat shB (pI (acc ++ [b])) := by rw [show pI (acc ++ [b]) = pI acc ++ [nI b] by simp [pI], flatB_snoc]
  rw [e, flatB_len, flatB_len, pI_len, pI_len, show (acc.length * 1 == acc.length * 1) = true from beq_self_eq_true _, decide_eq_true (by omega), decide_eq_true (by omega), Bool.and_self, Bool.and_self, cond_true, List.length_append, decide_eq_true (show 0 + (acc.length + 1) * 1 ≤ (acc.length + [b].length) * 1 by simp), cond_true, rowsB_at (l := pI (acc ++ [b])) (by rw [pI_len]; simp) (by rw [pI_len]; simp; omega)]
/-! ### nobody's stream -/
def h348n (b : List Int) := p348v0 0 b
theorem R348n : REntOK FT XT 348 (rn348v0 h348n) := ok348v0 fun _ _ h => ⟨0, h⟩
def h349n := p349v0 0
theorem R349n : REntOK FT XT 349 (rn349v0 h349n) := ok349v0 fun _ h => ⟨0, h⟩
def h350n := p350v0 0
theorem R350n : REntOK FT XT 350 (rn350v0 h350n) := ok350v0 fun _ h => ⟨0, h⟩
def h351n := p351v0 0
theorem R351n : REntOK FT XT 351 (rn351v0 h351n) := ok351v0 fun _ h => ⟨0, h⟩
def h352n := p352v0 0
theorem R352n : REntOK FT XT 352 (rn352v0 h352n) := ok352v0 fun _ h => ⟨0, h⟩
def h348m (b : List Int) (m : Bool) (e c a : Int) := p348v1 f108 h343 h341 0 b m e c a
theorem R348m : REntOK FT XT 348 (rn348v1 h348m) := ok348v1 f108 h343 h341 E108 E343 E341 fun _ _ _ _ _ _ h => ⟨0, h⟩
def f333 (b c : List Int) := p333 f347 h348n h349n h350n h351n h352n h348m h349 h350 h351 h352 h348 0 b c
theorem E333 : EntOK FT XT 333 (en333 f333) := ok333 f347 h348n h349n h350n h351n h352n h348m h349 h350 h351 h352 h348 E347 R348n R349n R350n R351n R352n R348m R349 R350 R351 R352 R348 fun _ _ _ h => ⟨0, h⟩
theorem f333_is {b m : List Nat} (hb : bel 256 b) (hm : bel 256 m) : f333 (nI b) (nI m) = some true := by
  unfold f333 p333
  rw [nI_len, nI_len]
  by_cases h1 : 3000 < b.length
  · rw [decide_eq_true (by omega), cond_true]; rfl
  rw [decide_eq_false (by omega), cond_false]
  by_cases h2 : 3000 < m.length
  · rw [decide_eq_true (by omega), cond_true]; rfl
  rw [decide_eq_false (by omega), cond_false]
  have n1 : h348n (nI b) = some ((([], ((2 : Int), ())), ()), ()) := rfl
  have n2 : h349n = some (((0 : Int), ()), ()) := rfl
  have n3 : h350n = some (((0 : Int), ()), ()) := rfl
  have n4 : h351n = some (((0 : Int), ()), ()) := rfl
  have n5 : h352n = some (((0 : Int), ()), ()) := rfl
  have m1 : h348m (nI b) false 0 0 0 = some ((([], ((2 : Int), ())), ()), ((false, ([], (0, (0, (0, ()))))), ())) := rfl
  have m2 : h349 false [] 0 0 0 = some (((0 : Int), ()), ((false, ([], (0, (0, (0, ()))))), ())) := rfl
  have m3 : h350 false [] 0 0 0 = some (((0 : Int), ()), ((false, ([], (0, (0, (0, ()))))), ())) := rfl
  have m4 : h351 false [] 0 0 0 = some (((0 : Int), ()), ((false, ([], (0, (0, (0, ()))))), ())) := rfl
  have m5 : h352 false [] 0 0 0 = some (((0 : Int), ()), ((false, ([], (0, (0, (0, ()))))), ())) := rfl
  have w1 := h348_is (b := b) (h := []) (e := 0) (c := 0) (a := 0) hb (fun x hx => by cases hx) (by simp; omega) (by omega)
  obtain ⟨d1, d2, d3, d4⟩ := D_is _ ([] ++ b) (Nat.lt_succ_self _)
  rw [show wrS b [] 0 0 0 = ((D ([] ++ b)).1, (D ([] ++ b)).2.2.1, (D ([] ++ b)).2.1, (D ([] ++ b)).2.2.1, 0 + (D ([] ++ b)).1.length, 0 + (D ([] ++ b)).2.2.2) from if_pos rfl] at w1
  replace w1 : h348 (nI b) true [] 0 0 0 = _ := w1
  rw [List.nil_append] at w1 d1 d2 d3 d4
  simp only [] at w1
  generalize hD : D b = X at *
  obtain ⟨ps, hh, e, t⟩ := X
  simp only [Nat.zero_add] at w1 d1 d2 d3 d4
  have i0 : (iadd .i64 (iadd .i64 (iadd .i64 (0 : Int) 0) 0) 0) = 0 := by decide
  simp only [n1, n2, n3, n4, n5, m1, m2, m3, m4, m5, i0, w1, outW, stI, h350_is, show ((2 : Int) != 2) = false from rfl, show ((0 : Int) != 0) = false from rfl, List.length_nil, cond_false, show (((0 : Nat) : Int) != 0) = false from rfl]
  by_cases he : e = 0
  · subst he
    have hh2 := (d1 rfl).2.2
    have w2 := h348_is (b := m) (h := hh) (e := 0) (c := ps.length) (a := t) hm (by rw [hh2]; exact bel_drop hb) (by have := (d1 rfl).2.1; omega) (by omega)
    simp only [w2, show (((0 : Nat) : Int) == 0) = true from rfl, cond_true, f347]
  · have hh2 := d2 he
    subst hh2
    have w2 := h348_is (b := m) (h := []) (e := e) (c := ps.length) (a := t) hm (fun x hx => by cases hx) (by simp; omega) (by omega)
    rw [show wrS m [] e ps.length t = ([], e, [], e, ps.length, t) from if_neg he] at w2
    have w3 := h352_is (h := []) e ps.length t (fun x hx => by cases hx) (by simp)
    rw [show wantZ [] e = 0 from if_pos he] at w3
    simp only [w2, w3, outW, stI, h349_is, h350_is, beq_eq_false_iff_ne.2 (show ((e : Nat) : Int) ≠ 0 by omega), cond_false, beq_self_eq_true, kI, List.map_nil, List.length_nil, show (((0 : Nat) : Int) == 0) = true from rfl, cond_true, f347]
theorem law333 (z0 z1 : List Int) (h0 : okD (Sh.sl (Sh.int .u8)) z0) (h1 : okD (Sh.sl (Sh.int .u8)) z1) : Ans FT XT 333 (encL [Sh.sl (Sh.int .u8), Sh.sl (Sh.int .u8)] (z0, (z1, ()))) [] (.bool true) [] := by
  obtain ⟨a, rfl, ha⟩ := wf8s h0.2
  obtain ⟨b, rfl, hb⟩ := wf8s h1.2
  exact E333.2 (nI a, (nI b, ())) true (f333_is ha hb)
end Go.Proofs.YteagngpgghnlmaaE
