/- Chapter 38, ChansPlay: the channel's functions and the document's. Printed by gen/c38p.py. -/
import Derived.Test.YtcnkihdjenjdgaaEvN
import Derived.Test.YtcnkihdjenjdgaaEvOp
import Derived.Test.YtcnkihdjenjdgaaEvHK3
namespace Go.Proofs.YtcnkihdjenjdgaaE
open Go
set_option linter.unusedSimpArgs false
set_option linter.unusedVariables false
set_option maxRecDepth 4000
def f108 (l : List Int) : Option (List Int) := if l.length ≤ 1099511627776 then some l else none
theorem f108_is {l : List Int} (h : l.length ≤ 1099511627776) : f108 l = some l := if_pos h
theorem clone_ans {g : Nat} (hF : FT g = none) (hX : ∀ l : List Int, XT g [.tb (.int .u8) l] = cloneX (.int .u8) l) {l r : List Int} (h : f108 l = some r) : Ans FT XT g [.tb (.int .u8) l] [] (ownOut .u8 r).1 (ownOut .u8 r).2 := by
  refine ⟨1, ?_⟩
  unfold f108 at h
  split at h <;> try (cases h; done)
  rename_i hl
  injection h with h; subst h
  simp only [evF, hF, List.isEmpty_nil, if_true, hX]
  show (if l.length ≤ 1099511627776 then some (ownOut .u8 l) else none) = some ((ownOut .u8 l).1, (ownOut .u8 l).2)
  rw [if_pos hl]
theorem E108 : EntOK FT XT 108 (en108 f108) := ⟨rfl, fun v r h => clone_ans (g := 108) rfl (fun _ => rfl) h⟩
theorem L23_is (N : Nat) (a b : List Int) (hl : a.length = b.length) (hb : a.length < 2 ^ 40) : ∀ d i fuel, i + d = a.length → d < fuel → L23_0 N (some true) fuel a b (i : Int) = some (a.drop i == b.drop i) := by
  intro d
  induction d with
  | zero =>
    intro i fuel hd hf
    obtain ⟨m, rfl⟩ : ∃ m, fuel = m + 1 := ⟨fuel - 1, by omega⟩
    simp only [L23_0, show ¬ ((i : Int) < ((a.length : Nat) : Int)) by omega, decide_false, cond_false]
    rw [List.drop_of_length_le (by omega), List.drop_of_length_le (by omega)]
    rfl
  | succ d ih =>
    intro i fuel hd hf
    obtain ⟨m, rfl⟩ : ∃ m, fuel = m + 1 := ⟨fuel - 1, by omega⟩
    have hi : i < a.length := by omega
    have hi2 : i < b.length := by omega
    rw [List.drop_eq_getElem_cons hi, List.drop_eq_getElem_cons hi2]
    simp only [L23_0, show ((i : Int) < ((a.length : Nat) : Int)) by omega, decide_true, cond_true, geti_nat, List.getElem?_eq_getElem hi, List.getElem?_eq_getElem hi2]
    by_cases e : a[i] = b[i]
    · rw [e]
      simp only [bne_self_eq_false, cond_false]
      rw [up1 (by omega), ih (i + 1) m (by omega) (by omega)]
      rw [List.cons_beq_cons, beq_self_eq_true, Bool.true_and]
    · simp only [show (a[i] != b[i]) = true from bne_iff_ne.2 e, cond_true]
      congr 1
      symm
      rw [beq_eq_false_iff_ne]
      intro h; injection h with h1 h2; exact e h1
def f23 (a b : List Int) : Option Bool := if a.length < 1099511627776 then some (a == b) else none
theorem E23 : EntOK FT XT 23 (en23 f23) := ok23 fun a b r h => ⟨a.length + 1, by
  unfold f23 at h
  split at h <;> try (cases h; done)
  rename_i hb
  unfold p23
  by_cases hl : a.length = b.length
  · simp only [hl, bne_self_eq_false, cond_false]
    rw [← hl]
    have := L23_is (a.length + 1) a b hl hb a.length 0 (a.length + 1) (by omega) (by omega)
    rw [List.drop_zero, List.drop_zero] at this
    exact this.trans h
  · simp only [show ((((a.length : Nat) : Int)) != ((b.length : Nat) : Int)) = true from bne_iff_ne.2 (by omega), cond_true]
    rw [← h]
    congr 1
    symm
    rw [beq_eq_false_iff_ne]
    intro e; exact hl (by rw [e])⟩
theorem f23_same {a : List Int} (h : a.length < 1099511627776) : f23 a a = some true := by unfold f23; rw [if_pos h, beq_self_eq_true]


abbrev Cc : Type := (List Int) × Int × Int × Int × (List Int) × Int × Int × Int × Bool
abbrev xx (c : Cc) : Unit × (Unit × (Unit × (Unit × (Unit × (Unit × (Unit × (Unit × (Unit × (Unit × (Unit × (Unit × (Unit × (Unit × (Unit × (Unit × (Unit × (Unit × (Unit × (Unit × (Unit × (Unit × (Unit × (Unit × (Unit × (Unit × (Unit × (Unit × (Unit × (Unit × (Unit × (Unit × (Unit × ((List Int) × (Int × (Int × (Int × ((List Int) × (Int × (Int × (Int × (Bool × Unit))))))))))))))))))))))))))))))))))))))))) := ((), ((), ((), ((), ((), ((), ((), ((), ((), ((), ((), ((), ((), ((), ((), ((), ((), ((), ((), ((), ((), ((), ((), ((), ((), ((), ((), ((), ((), ((), ((), ((), ((), (c.1, (c.2.1, (c.2.2.1, (c.2.2.2.1, (c.2.2.2.2.1, (c.2.2.2.2.2.1, (c.2.2.2.2.2.2.1, (c.2.2.2.2.2.2.2.1, (c.2.2.2.2.2.2.2.2, ()))))))))))))))))))))))))))))))))))))))))))
def okC (c : Cc) : Prop := c.1.length ≤ 65536 ∧ c.2.2.2.2.1.length ≤ 65536
/-! ### what they answer -/
def cutN (b : List Int) (n : Int) : Nat := min b.length n.toNat
def sPut (c : Cc) (w : Int) (b : List Int) : Cc × Int :=
  if w = 0 then (if c.2.2.2.2.2.2.2.2 = true then (c, 11) else if 65536 < c.1.length + b.length then (c, 12) else ((c.1 ++ b, (iadd .i64 c.2.1 ((b.length : Nat) : Int), c.2.2)), 0))
  else if w = 1 then (if c.2.2.2.2.2.2.2.2 = true then (c, 11) else if 65536 < c.2.2.2.2.1.length + b.length then (c, 12) else ((c.1, (c.2.1, (c.2.2.1, (c.2.2.2.1, (c.2.2.2.2.1 ++ b, (iadd .i64 c.2.2.2.2.2.1 ((b.length : Nat) : Int), c.2.2.2.2.2.2)))))), 0))
  else (c, 1)
def sTake (c : Cc) (w n : Int) : Cc × List Int × Int :=
  if w = 0 then (if n < 0 then (c, ([], 1)) else ((c.1.drop (cutN c.1 n), (c.2.1, (iadd .i64 c.2.2.1 ((cutN c.1 n : Nat) : Int), c.2.2.2))), (c.1.take (cutN c.1 n), 0)))
  else if w = 1 then (if n < 0 then (c, ([], 1)) else ((c.1, (c.2.1, (c.2.2.1, (c.2.2.2.1, (c.2.2.2.2.1.drop (cutN c.2.2.2.2.1 n), (c.2.2.2.2.2.1, (iadd .i64 c.2.2.2.2.2.2.1 ((cutN c.2.2.2.2.1 n : Nat) : Int), c.2.2.2.2.2.2.2))))))), (c.2.2.2.2.1.take (cutN c.2.2.2.2.1 n), 0)))
  else (c, ([], 1))
def sLose (c : Cc) (w n : Int) : Cc × Int × Int :=
  if w = 0 then (if n < 0 then (c, (0, 1)) else ((c.1.drop (cutN c.1 n), (c.2.1, (c.2.2.1, (iadd .i64 c.2.2.2.1 ((cutN c.1 n : Nat) : Int), c.2.2.2.2)))), (((cutN c.1 n : Nat) : Int), 0)))
  else if w = 1 then (if n < 0 then (c, (0, 1)) else ((c.1, (c.2.1, (c.2.2.1, (c.2.2.2.1, (c.2.2.2.2.1.drop (cutN c.2.2.2.2.1 n), (c.2.2.2.2.2.1, (c.2.2.2.2.2.2.1, (iadd .i64 c.2.2.2.2.2.2.2.1 ((cutN c.2.2.2.2.1 n : Nat) : Int), c.2.2.2.2.2.2.2.2)))))))), (((cutN c.2.2.2.2.1 n : Nat) : Int), 0)))
  else (c, (0, 1))
theorem sPut_ok {c : Cc} {w : Int} {b : List Int} (h : okC c) : okC (sPut c w b).1 := by
  obtain ⟨h1, h2⟩ := h
  unfold sPut
  split
  · split
    · exact ⟨h1, h2⟩
    · split
      · exact ⟨h1, h2⟩
      · refine ⟨?_, h2⟩
        show (c.1 ++ b).length ≤ 65536
        rw [List.length_append]; omega
  · split
    · split
      · exact ⟨h1, h2⟩
      · split
        · exact ⟨h1, h2⟩
        · refine ⟨h1, ?_⟩
          show (c.2.2.2.2.1 ++ b).length ≤ 65536
          rw [List.length_append]; omega
    · exact ⟨h1, h2⟩
theorem sTake_ok {c : Cc} {w n : Int} (h : okC c) : okC (sTake c w n).1 := by
  obtain ⟨h1, h2⟩ := h
  unfold sTake
  split
  · split
    · exact ⟨h1, h2⟩
    · refine ⟨?_, h2⟩
      show (c.1.drop _).length ≤ 65536
      rw [List.length_drop]; omega
  · split
    · split
      · exact ⟨h1, h2⟩
      · refine ⟨h1, ?_⟩
        show (c.2.2.2.2.1.drop _).length ≤ 65536
        rw [List.length_drop]; omega
    · exact ⟨h1, h2⟩
theorem sLose_ok {c : Cc} {w n : Int} (h : okC c) : okC (sLose c w n).1 := by
  obtain ⟨h1, h2⟩ := h
  unfold sLose
  split
  · split
    · exact ⟨h1, h2⟩
    · refine ⟨?_, h2⟩
      show (c.1.drop _).length ≤ 65536
      rw [List.length_drop]; omega
  · split
    · split
      · exact ⟨h1, h2⟩
      · refine ⟨h1, ?_⟩
        show (c.2.2.2.2.1.drop _).length ≤ 65536
        rw [List.length_drop]; omega
    · exact ⟨h1, h2⟩
/-! ### ways -/
def h111 : D111v0 := p111v0 0
theorem R111 : REntOK FT XT 111 (rn111v0 h111) := ok111v0 fun _ _ h => ⟨0, h⟩
theorem h111_no {w : Int} (h0 : ¬ w = 0) (h1 : ¬ w = 1) : h111 w = some ((false, ()), ()) := by
  show (bif (w == (0 : Int)) then some ((true, ()), ()) else some (((w == (1 : Int)), ()), ())) = _
  rw [show (w == (0 : Int)) = false from beq_eq_false_iff_ne.2 h0, show (w == (1 : Int)) = false from beq_eq_false_iff_ne.2 h1, cond_false]
def f112 : D112 := p112 0
theorem E112 : EntOK FT XT 112 (en112 f112) := ok112 fun _ _ h => ⟨0, h⟩
theorem f112_no {w : Int} (h0 : ¬ w = 0) (h1 : ¬ w = 1) : f112 w = some false := by
  show (bif (w == (0 : Int)) then some true else some (w == (1 : Int))) = _
  rw [show (w == (0 : Int)) = false from beq_eq_false_iff_ne.2 h0, show (w == (1 : Int)) = false from beq_eq_false_iff_ne.2 h1, cond_false]
theorem f112_0 : f112 0 = some true := rfl
theorem f112_1 : f112 1 = some true := rfl
/-! ### appended, and cut -/
def app1 {β : Type} (b0 b : List Int) (k : List Int → Option β) : Option β :=
  match f108 b0 with
  | none => none
  | some r => bif ((List.length r == List.length r * 1) && (decide ((List.length r + List.length b) * 1 ≤ 1099511627776) && decide (List.length r + List.length b ≤ 1099511627776))) then bif decide (0 + (List.length r + List.length b) * 1 ≤ (r ++ b).length) then k (List.take (List.length r + List.length b) (List.drop 0 (r ++ b))) else none else none
theorem app1_is {β : Type} {b0 b : List Int} (k : List Int → Option β) (h : b0.length + b.length ≤ 65536) : app1 b0 b k = k (b0 ++ b) := by
  unfold app1
  rw [f108_is (by omega)]
  simp only [List.drop_zero]
  rw [show (List.length b0 == List.length b0 * 1) = true from beq_iff_eq.2 (by omega), decide_eq_true (by omega), decide_eq_true (by omega), Bool.and_self, Bool.and_self, cond_true, decide_eq_true (by rw [List.length_append]; omega), cond_true, List.take_of_length_le (by rw [List.length_append]; exact Nat.le_refl _)]
def app2 {β : Type} (b0 b : List Int) (k : List Int → Option β) : Option β :=
  bif (decide (List.length b0 * 1 ≤ 1099511627776) && decide (List.length b0 ≤ 1099511627776)) then bif ((List.length b0 == List.length b0 * 1) && (decide ((List.length b0 + List.length b) * 1 ≤ 1099511627776) && decide (List.length b0 + List.length b ≤ 1099511627776))) then bif decide (0 + (List.length b0 + List.length b) * 1 ≤ (b0 ++ b).length) then k (List.take (List.length b0 + List.length b) (List.drop 0 (b0 ++ b))) else none else none else none
theorem app2_is {β : Type} {b0 b : List Int} (k : List Int → Option β) (h : b0.length + b.length ≤ 65536) : app2 b0 b k = k (b0 ++ b) := by
  unfold app2
  rw [show decide (List.length b0 * 1 ≤ 1099511627776) = true from decide_eq_true (by omega), show decide (List.length b0 ≤ 1099511627776) = true from decide_eq_true (by omega), Bool.and_self, cond_true, show (List.length b0 == List.length b0 * 1) = true from beq_iff_eq.2 (by omega), decide_eq_true (by omega), decide_eq_true (by omega), Bool.and_self, Bool.and_self, cond_true, List.drop_zero, decide_eq_true (by rw [List.length_append]; omega), cond_true, List.take_of_length_le (by rw [List.length_append]; exact Nat.le_refl _)]
abbrev mnI (b : List Int) (n : Int) : Int := if ((b.length : Nat) : Int) < n then ((b.length : Nat) : Int) else n
theorem mnI_is {b : List Int} {n : Int} (h : ¬ n < 0) : mnI b n = ((cutN b n : Nat) : Int) := by
  unfold mnI cutN
  split <;> omega
theorem cutN_le (b : List Int) (n : Int) : cutN b n ≤ b.length := Nat.min_le_left _ _
def cut1 {β : Type} (b0 : List Int) (n : Int) (k : List Int → List Int → Option β) : Option β :=
  bif (decide ((0 : Int) ≤ mnI b0 n) && decide (mnI b0 n ≤ ((b0.length : Nat) : Int))) then match f108 (List.take (Int.toNat (mnI b0 n)) b0) with
  | none => none
  | some r => bif (decide ((0 : Int) ≤ mnI b0 n) && decide (mnI b0 n ≤ ((b0.length : Nat) : Int))) then k r (List.drop (Int.toNat (mnI b0 n)) b0) else none else none
theorem cut1_is {β : Type} {b0 : List Int} {n : Int} (k : List Int → List Int → Option β) (hn : ¬ n < 0) (h : b0.length ≤ 65536) : cut1 b0 n k = k (b0.take (cutN b0 n)) (b0.drop (cutN b0 n)) := by
  have hl := cutN_le b0 n
  unfold cut1
  rw [mnI_is hn, decide_eq_true (show (0 : Int) ≤ ((cutN b0 n : Nat) : Int) by omega), decide_eq_true (show ((cutN b0 n : Nat) : Int) ≤ ((b0.length : Nat) : Int) by omega), Bool.and_self, cond_true, Int.toNat_natCast, f108_is (by rw [List.length_take]; omega)]
  simp only [cond_true]
theorem take_len {b0 : List Int} {n : Int} : (b0.take (cutN b0 n)).length = cutN b0 n := by rw [List.length_take]; have := cutN_le b0 n; omega
def cut2 {β : Type} (b0 : List Int) (n : Int) (k : List Int → List Int → Option β) : Option β :=
  bif (decide ((0 : Int) ≤ mnI b0 n) && decide (mnI b0 n ≤ ((b0.length : Nat) : Int))) then
  bif (decide (List.length (List.drop (Int.toNat (mnI b0 n)) b0) * 1 ≤ 1099511627776) && decide (List.length (List.drop (Int.toNat (mnI b0 n)) b0) ≤ 1099511627776)) then
  bif (decide ((0 : Int) ≤ mnI b0 n) && decide (mnI b0 n ≤ ((b0.length : Nat) : Int))) then
  bif (decide (List.length (List.take (Int.toNat (mnI b0 n)) b0) * 1 ≤ 1099511627776) && decide (List.length (List.take (Int.toNat (mnI b0 n)) b0) ≤ 1099511627776)) then
  bif decide (0 + List.length (List.drop (Int.toNat (mnI b0 n)) b0) * 1 ≤ List.length (List.drop (Int.toNat (mnI b0 n)) b0)) then
  bif decide (0 + List.length (List.take (Int.toNat (mnI b0 n)) b0) * 1 ≤ List.length (List.take (Int.toNat (mnI b0 n)) b0)) then
  k (List.take (List.length (List.take (Int.toNat (mnI b0 n)) b0)) (List.drop 0 (List.take (Int.toNat (mnI b0 n)) b0))) (List.take (List.length (List.drop (Int.toNat (mnI b0 n)) b0)) (List.drop 0 (List.drop (Int.toNat (mnI b0 n)) b0)))
  else none else none else none else none else none else none
theorem cut2_is {β : Type} {b0 : List Int} {n : Int} (k : List Int → List Int → Option β) (hn : ¬ n < 0) (h : b0.length ≤ 65536) : cut2 b0 n k = k (b0.take (cutN b0 n)) (b0.drop (cutN b0 n)) := by
  have hl := cutN_le b0 n
  have h1 : (b0.drop (cutN b0 n)).length ≤ 65536 := by rw [List.length_drop]; omega
  have h2 : (b0.take (cutN b0 n)).length ≤ 65536 := by rw [List.length_take]; omega
  unfold cut2
  rw [mnI_is hn, Int.toNat_natCast, List.drop_zero, List.drop_zero, List.take_length, List.take_length]
  generalize b0.drop (cutN b0 n) = x at *
  generalize b0.take (cutN b0 n) = y at *
  rw [decide_eq_true (show (0 : Int) ≤ ((cutN b0 n : Nat) : Int) by omega), decide_eq_true (show ((cutN b0 n : Nat) : Int) ≤ ((b0.length : Nat) : Int) by omega), show decide (x.length * 1 ≤ 1099511627776) = true from decide_eq_true (by omega), show decide (x.length ≤ 1099511627776) = true from decide_eq_true (by omega), show decide (y.length * 1 ≤ 1099511627776) = true from decide_eq_true (by omega), show decide (y.length ≤ 1099511627776) = true from decide_eq_true (by omega), show decide (0 + x.length * 1 ≤ x.length) = true from decide_eq_true (by omega), show decide (0 + y.length * 1 ≤ y.length) = true from decide_eq_true (by omega)]
  rfl
theorem addL {a b : Nat} (ha : a ≤ 65536) (hb : b ≤ 70000) : iadd .i64 ((a : Nat) : Int) ((b : Nat) : Int) = ((a + b : Nat) : Int) := addn (by omega)

/-! ### put -/
def h86 : D86v1 := p86v1 h111 f108 0
theorem Q86v1 : REntOK FT XT 86 (rn86v1 h86) := ok86v1 h111 f108 E108 R111 fun _ _ _ _ _ _ _ _ _ _ _ _ h => ⟨0, h⟩
theorem Q86v2 : REntOK FT XT 86 (rn86v2 h86) := ok86v2 h111 f108 E108 R111 fun _ _ _ _ _ _ _ _ _ _ _ _ h => ⟨0, h⟩
theorem Q86v6 : REntOK FT XT 86 (rn86v6 h86) := ok86v6 h111 f108 E108 R111 fun _ _ _ _ _ _ _ _ _ _ _ _ h => ⟨0, h⟩
theorem e86_0 (b : List Int) (b0 : List Int) (p0 t0 l0 : Int) (b1 : List Int) (p1 t1 l1 : Int) (s : Bool) : h86 0 b b0 p0 t0 l0 b1 p1 t1 l1 s = bif s then some ((11, ()), (xx (b0, (p0, (t0, (l0, (b1, (p1, (t1, (l1, s)))))))), ())) else bif decide (iadd .i64 ((b0.length : Nat) : Int) ((b.length : Nat) : Int) > 65536) then some ((12, ()), (xx (b0, (p0, (t0, (l0, (b1, (p1, (t1, (l1, s)))))))), ())) else app1 b0 b fun x => some ((0, ()), (xx (x, (iadd .i64 p0 ((b.length : Nat) : Int), (t0, (l0, (b1, (p1, (t1, (l1, (s))))))))), ())) := by kernel_rfl
theorem e86_1 (b : List Int) (b0 : List Int) (p0 t0 l0 : Int) (b1 : List Int) (p1 t1 l1 : Int) (s : Bool) : h86 1 b b0 p0 t0 l0 b1 p1 t1 l1 s = bif s then some ((11, ()), (xx (b0, (p0, (t0, (l0, (b1, (p1, (t1, (l1, s)))))))), ())) else bif decide (iadd .i64 ((b1.length : Nat) : Int) ((b.length : Nat) : Int) > 65536) then some ((12, ()), (xx (b0, (p0, (t0, (l0, (b1, (p1, (t1, (l1, s)))))))), ())) else app1 b1 b fun x => some ((0, ()), (xx (b0, (p0, (t0, (l0, (x, (iadd .i64 p1 ((b.length : Nat) : Int), (t1, (l1, (s))))))))), ())) := by kernel_rfl
theorem h86_is {c : Cc} {w : Int} {b : List Int} (hc : okC c) (hb : b.length ≤ 70000) : h86 w b c.1 c.2.1 c.2.2.1 c.2.2.2.1 c.2.2.2.2.1 c.2.2.2.2.2.1 c.2.2.2.2.2.2.1 c.2.2.2.2.2.2.2.1 c.2.2.2.2.2.2.2.2 = some (((sPut c w b).2, ()), (xx (sPut c w b).1, ())) := by
  obtain ⟨b0, p0, t0, l0, b1, p1, t1, l1, s⟩ := c
  obtain ⟨h1, h2⟩ := hc
  simp only [] at h1 h2
  unfold sPut
  simp only []
  by_cases w0 : w = 0
  · subst w0
    rw [if_pos rfl, e86_0, addL h1 hb]
    cases s with
    | true => rw [cond_true, if_pos rfl]
    | false =>
      rw [cond_false, if_neg Bool.false_ne_true]
      by_cases hf : 65536 < b0.length + b.length
      · rw [if_pos hf, decide_eq_true (by omega), cond_true]
      · rw [if_neg hf, decide_eq_false (by omega), cond_false, app1_is _ (by omega)]
  · rw [if_neg w0]
    by_cases w1 : w = 1
    · subst w1
      rw [if_pos rfl, e86_1, addL h2 hb]
      cases s with
      | true => rw [cond_true, if_pos rfl]
      | false =>
        rw [cond_false, if_neg Bool.false_ne_true]
        by_cases hf : 65536 < b1.length + b.length
        · rw [if_pos hf, decide_eq_true (by omega), cond_true]
        · rw [if_neg hf, decide_eq_false (by omega), cond_false, app1_is _ (by omega)]
    · rw [if_neg w1]
      show p86v1 h111 f108 0 w b b0 p0 t0 l0 b1 p1 t1 l1 s = _
      unfold p86v1
      rw [h111_no w0 w1]
      rfl
def f93 : D93 := p93 f112 0
theorem E93 : EntOK FT XT 93 (en93 f93) := ok93 f112 E112 fun _ _ _ _ h => ⟨0, h⟩
theorem e93_0 (b : List Int) (b0 : List Int) (p0 t0 l0 : Int) (b1 : List Int) (p1 t1 l1 : Int) (s : Bool) : f93 (b0, (p0, (t0, (l0, (b1, (p1, (t1, (l1, s)))))))) 0 b = bif s then some ((b0, (p0, (t0, (l0, (b1, (p1, (t1, (l1, s)))))))), 11) else bif decide (iadd .i64 ((b0.length : Nat) : Int) ((b.length : Nat) : Int) > 65536) then some ((b0, (p0, (t0, (l0, (b1, (p1, (t1, (l1, s)))))))), 12) else app2 b0 b fun x => some ((x, (iadd .i64 p0 ((b.length : Nat) : Int), (t0, (l0, (b1, (p1, (t1, (l1, (s))))))))), 0) := by kernel_rfl
theorem e93_1 (b : List Int) (b0 : List Int) (p0 t0 l0 : Int) (b1 : List Int) (p1 t1 l1 : Int) (s : Bool) : f93 (b0, (p0, (t0, (l0, (b1, (p1, (t1, (l1, s)))))))) 1 b = bif s then some ((b0, (p0, (t0, (l0, (b1, (p1, (t1, (l1, s)))))))), 11) else bif decide (iadd .i64 ((b1.length : Nat) : Int) ((b.length : Nat) : Int) > 65536) then some ((b0, (p0, (t0, (l0, (b1, (p1, (t1, (l1, s)))))))), 12) else app2 b1 b fun x => some ((b0, (p0, (t0, (l0, (x, (iadd .i64 p1 ((b.length : Nat) : Int), (t1, (l1, (s))))))))), 0) := by kernel_rfl
theorem f93_is {c : Cc} {w : Int} {b : List Int} (hc : okC c) (hb : b.length ≤ 70000) : f93 (c.1, (c.2.1, (c.2.2.1, (c.2.2.2.1, (c.2.2.2.2.1, (c.2.2.2.2.2.1, (c.2.2.2.2.2.2.1, (c.2.2.2.2.2.2.2.1, (c.2.2.2.2.2.2.2.2))))))))) w b = some ((sPut c w b).1, (sPut c w b).2) := by
  obtain ⟨b0, p0, t0, l0, b1, p1, t1, l1, s⟩ := c
  obtain ⟨h1, h2⟩ := hc
  simp only [] at h1 h2
  unfold sPut
  simp only []
  by_cases w0 : w = 0
  · subst w0
    rw [if_pos rfl, e93_0, addL h1 hb]
    cases s with
    | true => rw [cond_true, if_pos rfl]
    | false =>
      rw [cond_false, if_neg Bool.false_ne_true]
      by_cases hf : 65536 < b0.length + b.length
      · rw [if_pos hf, decide_eq_true (by omega), cond_true]
      · rw [if_neg hf, decide_eq_false (by omega), cond_false, app2_is _ (by omega)]
  · rw [if_neg w0]
    by_cases w1 : w = 1
    · subst w1
      rw [if_pos rfl, e93_1, addL h2 hb]
      cases s with
      | true => rw [cond_true, if_pos rfl]
      | false =>
        rw [cond_false, if_neg Bool.false_ne_true]
        by_cases hf : 65536 < b1.length + b.length
        · rw [if_pos hf, decide_eq_true (by omega), cond_true]
        · rw [if_neg hf, decide_eq_false (by omega), cond_false, app2_is _ (by omega)]
    · rw [if_neg w1]
      show p93 f112 0 (b0, (p0, (t0, (l0, (b1, (p1, (t1, (l1, s)))))))) w b = _
      unfold p93
      rw [f112_no w0 w1]
      rfl
/-! ### Take -/
def h88 : D88v1 := p88v1 h111 f108 0
theorem Q88v1 : REntOK FT XT 88 (rn88v1 h88) := ok88v1 h111 f108 E108 R111 fun _ _ _ _ _ _ _ _ _ _ _ _ h => ⟨0, h⟩
theorem Q88v2 : REntOK FT XT 88 (rn88v2 h88) := ok88v2 h111 f108 E108 R111 fun _ _ _ _ _ _ _ _ _ _ _ _ h => ⟨0, h⟩
theorem Q88v5 : REntOK FT XT 88 (rn88v5 h88) := ok88v5 h111 f108 E108 R111 fun _ _ _ _ _ _ _ _ _ _ _ _ h => ⟨0, h⟩
theorem e88_0 (n : Int) (b0 : List Int) (p0 t0 l0 : Int) (b1 : List Int) (p1 t1 l1 : Int) (s : Bool) : h88 0 n b0 p0 t0 l0 b1 p1 t1 l1 s = bif decide (n < 0) then some (((([] : List Int), ((1 : Int), ())), ()), (xx (b0, (p0, (t0, (l0, (b1, (p1, (t1, (l1, s)))))))), ())) else cut1 b0 n fun x y => bif decide (0 + List.length x * 1 ≤ List.length x) then some (((List.take (List.length x) (List.drop 0 x), ((0 : Int), ())), ()), (xx (y, (p0, (iadd .i64 t0 ((x.length : Nat) : Int), (l0, (b1, (p1, (t1, (l1, (s))))))))), ())) else none := by kernel_rfl
theorem e88_1 (n : Int) (b0 : List Int) (p0 t0 l0 : Int) (b1 : List Int) (p1 t1 l1 : Int) (s : Bool) : h88 1 n b0 p0 t0 l0 b1 p1 t1 l1 s = bif decide (n < 0) then some (((([] : List Int), ((1 : Int), ())), ()), (xx (b0, (p0, (t0, (l0, (b1, (p1, (t1, (l1, s)))))))), ())) else cut1 b1 n fun x y => bif decide (0 + List.length x * 1 ≤ List.length x) then some (((List.take (List.length x) (List.drop 0 x), ((0 : Int), ())), ()), (xx (b0, (p0, (t0, (l0, (y, (p1, (iadd .i64 t1 ((x.length : Nat) : Int), (l1, (s))))))))), ())) else none := by kernel_rfl
theorem h88_is {c : Cc} {w n : Int} (hc : okC c) : h88 w n c.1 c.2.1 c.2.2.1 c.2.2.2.1 c.2.2.2.2.1 c.2.2.2.2.2.1 c.2.2.2.2.2.2.1 c.2.2.2.2.2.2.2.1 c.2.2.2.2.2.2.2.2 = some (((((sTake c w n).2.1, ((sTake c w n).2.2, ()))), ()), (xx (sTake c w n).1, ())) := by
  obtain ⟨b0, p0, t0, l0, b1, p1, t1, l1, s⟩ := c
  obtain ⟨h1, h2⟩ := hc
  simp only [] at h1 h2
  unfold sTake
  simp only []
  by_cases w0 : w = 0
  · subst w0
    rw [if_pos rfl, e88_0]
    by_cases hn : n < 0
    · rw [if_pos hn, decide_eq_true hn, cond_true]
    · rw [if_neg hn, decide_eq_false hn, cond_false, cut1_is _ hn h1]
      simp only [take_len, List.drop_zero, Nat.zero_add, Nat.mul_one, Nat.le_refl, decide_true, cond_true, List.take_take, Nat.min_self]
  · rw [if_neg w0]
    by_cases w1 : w = 1
    · subst w1
      rw [if_pos rfl, e88_1]
      by_cases hn : n < 0
      · rw [if_pos hn, decide_eq_true hn, cond_true]
      · rw [if_neg hn, decide_eq_false hn, cond_false, cut1_is _ hn h2]
        simp only [take_len, List.drop_zero, Nat.zero_add, Nat.mul_one, Nat.le_refl, decide_true, cond_true, List.take_take, Nat.min_self]
    · rw [if_neg w1]
      show p88v1 h111 f108 0 w n b0 p0 t0 l0 b1 p1 t1 l1 s = _
      unfold p88v1
      rw [h111_no w0 w1]
      rfl
/-! ### Lose -/
def h87 : D87v1 := p87v1 h111 f108 0
theorem Q87v1 : REntOK FT XT 87 (rn87v1 h87) := ok87v1 h111 f108 E108 R111 fun _ _ _ _ _ _ _ _ _ _ _ _ h => ⟨0, h⟩
theorem Q87v2 : REntOK FT XT 87 (rn87v2 h87) := ok87v2 h111 f108 E108 R111 fun _ _ _ _ _ _ _ _ _ _ _ _ h => ⟨0, h⟩
theorem e87_0 (n : Int) (b0 : List Int) (p0 t0 l0 : Int) (b1 : List Int) (p1 t1 l1 : Int) (s : Bool) : h87 0 n b0 p0 t0 l0 b1 p1 t1 l1 s = bif decide (n < 0) then some ((((0 : Int), ((1 : Int), ())), ()), (xx (b0, (p0, (t0, (l0, (b1, (p1, (t1, (l1, s)))))))), ())) else cut1 b0 n fun x y => some (((((x.length : Nat) : Int), ((0 : Int), ())), ()), (xx (y, (p0, (t0, (iadd .i64 l0 ((x.length : Nat) : Int), (b1, (p1, (t1, (l1, (s))))))))), ())) := by kernel_rfl
theorem e87_1 (n : Int) (b0 : List Int) (p0 t0 l0 : Int) (b1 : List Int) (p1 t1 l1 : Int) (s : Bool) : h87 1 n b0 p0 t0 l0 b1 p1 t1 l1 s = bif decide (n < 0) then some ((((0 : Int), ((1 : Int), ())), ()), (xx (b0, (p0, (t0, (l0, (b1, (p1, (t1, (l1, s)))))))), ())) else cut1 b1 n fun x y => some (((((x.length : Nat) : Int), ((0 : Int), ())), ()), (xx (b0, (p0, (t0, (l0, (y, (p1, (t1, (iadd .i64 l1 ((x.length : Nat) : Int), (s))))))))), ())) := by kernel_rfl
theorem h87_is {c : Cc} {w n : Int} (hc : okC c) : h87 w n c.1 c.2.1 c.2.2.1 c.2.2.2.1 c.2.2.2.2.1 c.2.2.2.2.2.1 c.2.2.2.2.2.2.1 c.2.2.2.2.2.2.2.1 c.2.2.2.2.2.2.2.2 = some (((((sLose c w n).2.1, ((sLose c w n).2.2, ()))), ()), (xx (sLose c w n).1, ())) := by
  obtain ⟨b0, p0, t0, l0, b1, p1, t1, l1, s⟩ := c
  obtain ⟨h1, h2⟩ := hc
  simp only [] at h1 h2
  unfold sLose
  simp only []
  by_cases w0 : w = 0
  · subst w0
    rw [if_pos rfl, e87_0]
    by_cases hn : n < 0
    · rw [if_pos hn, decide_eq_true hn, cond_true]
    · rw [if_neg hn, decide_eq_false hn, cond_false, cut1_is _ hn h1]
      simp only [take_len, List.drop_zero, Nat.zero_add, Nat.mul_one, Nat.le_refl, decide_true, cond_true, List.take_take, Nat.min_self]
  · rw [if_neg w0]
    by_cases w1 : w = 1
    · subst w1
      rw [if_pos rfl, e87_1]
      by_cases hn : n < 0
      · rw [if_pos hn, decide_eq_true hn, cond_true]
      · rw [if_neg hn, decide_eq_false hn, cond_false, cut1_is _ hn h2]
        simp only [take_len, List.drop_zero, Nat.zero_add, Nat.mul_one, Nat.le_refl, decide_true, cond_true, List.take_take, Nat.min_self]
    · rw [if_neg w1]
      show p87v1 h111 f108 0 w n b0 p0 t0 l0 b1 p1 t1 l1 s = _
      unfold p87v1
      rw [h111_no w0 w1]
      rfl
def f113 : D113 := p113 0
theorem E113 : EntOK FT XT 113 (en113 f113) := ok113 fun _ _ _ _ h => ⟨0, h⟩
theorem e113_0 (n : Int) (b0 : List Int) (p0 t0 l0 : Int) (b1 : List Int) (p1 t1 l1 : Int) (s : Bool) : f113 (b0, (p0, (t0, (l0, (b1, (p1, (t1, (l1, s)))))))) 0 n = cut2 b0 n fun x y => some ((y, (p0, (t0, (l0, (b1, (p1, (t1, (l1, (s))))))))), x) := by kernel_rfl
theorem e113_1 (n : Int) (b0 : List Int) (p0 t0 l0 : Int) (b1 : List Int) (p1 t1 l1 : Int) (s : Bool) : f113 (b0, (p0, (t0, (l0, (b1, (p1, (t1, (l1, s)))))))) 1 n = cut2 b1 n fun x y => some ((b0, (p0, (t0, (l0, (y, (p1, (t1, (l1, (s))))))))), x) := by kernel_rfl
def f94 : D94 := p94 f112 f113 0
theorem E94 : EntOK FT XT 94 (en94 f94) := ok94 f112 f113 E112 E113 fun _ _ _ _ h => ⟨0, h⟩
theorem e94_0 (n : Int) (b0 : List Int) (p0 t0 l0 : Int) (b1 : List Int) (p1 t1 l1 : Int) (s : Bool) : f94 (b0, (p0, (t0, (l0, (b1, (p1, (t1, (l1, s)))))))) 0 n = bif decide (n < 0) then some ((b0, (p0, (t0, (l0, (b1, (p1, (t1, (l1, s)))))))), (([] : List Int), (1 : Int))) else match f113 (b0, (p0, (t0, (l0, (b1, (p1, (t1, (l1, s)))))))) 0 n with
  | none => none
  | some r => some ((r.1.1, (r.1.2.1, (iadd .i64 r.1.2.2.1 ((r.2.length : Nat) : Int), (r.1.2.2.2.1, (r.1.2.2.2.2.1, (r.1.2.2.2.2.2.1, (r.1.2.2.2.2.2.2.1, (r.1.2.2.2.2.2.2.2.1, (r.1.2.2.2.2.2.2.2.2))))))))), (r.2, (0 : Int))) := by kernel_rfl
theorem e94_1 (n : Int) (b0 : List Int) (p0 t0 l0 : Int) (b1 : List Int) (p1 t1 l1 : Int) (s : Bool) : f94 (b0, (p0, (t0, (l0, (b1, (p1, (t1, (l1, s)))))))) 1 n = bif decide (n < 0) then some ((b0, (p0, (t0, (l0, (b1, (p1, (t1, (l1, s)))))))), (([] : List Int), (1 : Int))) else match f113 (b0, (p0, (t0, (l0, (b1, (p1, (t1, (l1, s)))))))) 1 n with
  | none => none
  | some r => some ((r.1.1, (r.1.2.1, (r.1.2.2.1, (r.1.2.2.2.1, (r.1.2.2.2.2.1, (r.1.2.2.2.2.2.1, (iadd .i64 r.1.2.2.2.2.2.2.1 ((r.2.length : Nat) : Int), (r.1.2.2.2.2.2.2.2.1, (r.1.2.2.2.2.2.2.2.2))))))))), (r.2, (0 : Int))) := by kernel_rfl
theorem f94_is {c : Cc} {w n : Int} (hc : okC c) : f94 (c.1, (c.2.1, (c.2.2.1, (c.2.2.2.1, (c.2.2.2.2.1, (c.2.2.2.2.2.1, (c.2.2.2.2.2.2.1, (c.2.2.2.2.2.2.2.1, (c.2.2.2.2.2.2.2.2))))))))) w n = some ((sTake c w n).1, ((sTake c w n).2.1, (sTake c w n).2.2)) := by
  obtain ⟨b0, p0, t0, l0, b1, p1, t1, l1, s⟩ := c
  obtain ⟨h1, h2⟩ := hc
  simp only [] at h1 h2
  unfold sTake
  simp only []
  by_cases w0 : w = 0
  · subst w0
    rw [if_pos rfl, e94_0]
    by_cases hn : n < 0
    · rw [if_pos hn, decide_eq_true hn, cond_true]
    · rw [if_neg hn, decide_eq_false hn, cond_false, e113_0, cut2_is _ hn h1]
      simp only [take_len]
  · rw [if_neg w0]
    by_cases w1 : w = 1
    · subst w1
      rw [if_pos rfl, e94_1]
      by_cases hn : n < 0
      · rw [if_pos hn, decide_eq_true hn, cond_true]
      · rw [if_neg hn, decide_eq_false hn, cond_false, e113_1, cut2_is _ hn h2]
        simp only [take_len]
    · rw [if_neg w1]
      show p94 f112 f113 0 (b0, (p0, (t0, (l0, (b1, (p1, (t1, (l1, s)))))))) w n = _
      unfold p94
      rw [f112_no w0 w1]
      rfl
def f95 : D95 := p95 f112 f113 0
theorem E95 : EntOK FT XT 95 (en95 f95) := ok95 f112 f113 E112 E113 fun _ _ _ _ h => ⟨0, h⟩
theorem e95_0 (n : Int) (b0 : List Int) (p0 t0 l0 : Int) (b1 : List Int) (p1 t1 l1 : Int) (s : Bool) : f95 (b0, (p0, (t0, (l0, (b1, (p1, (t1, (l1, s)))))))) 0 n = bif decide (n < 0) then some ((b0, (p0, (t0, (l0, (b1, (p1, (t1, (l1, s)))))))), ((0 : Int), (1 : Int))) else match f113 (b0, (p0, (t0, (l0, (b1, (p1, (t1, (l1, s)))))))) 0 n with
  | none => none
  | some r => some ((r.1.1, (r.1.2.1, (r.1.2.2.1, (iadd .i64 r.1.2.2.2.1 ((r.2.length : Nat) : Int), (r.1.2.2.2.2.1, (r.1.2.2.2.2.2.1, (r.1.2.2.2.2.2.2.1, (r.1.2.2.2.2.2.2.2.1, (r.1.2.2.2.2.2.2.2.2))))))))), (((r.2.length : Nat) : Int), (0 : Int))) := by kernel_rfl
theorem e95_1 (n : Int) (b0 : List Int) (p0 t0 l0 : Int) (b1 : List Int) (p1 t1 l1 : Int) (s : Bool) : f95 (b0, (p0, (t0, (l0, (b1, (p1, (t1, (l1, s)))))))) 1 n = bif decide (n < 0) then some ((b0, (p0, (t0, (l0, (b1, (p1, (t1, (l1, s)))))))), ((0 : Int), (1 : Int))) else match f113 (b0, (p0, (t0, (l0, (b1, (p1, (t1, (l1, s)))))))) 1 n with
  | none => none
  | some r => some ((r.1.1, (r.1.2.1, (r.1.2.2.1, (r.1.2.2.2.1, (r.1.2.2.2.2.1, (r.1.2.2.2.2.2.1, (r.1.2.2.2.2.2.2.1, (iadd .i64 r.1.2.2.2.2.2.2.2.1 ((r.2.length : Nat) : Int), (r.1.2.2.2.2.2.2.2.2))))))))), (((r.2.length : Nat) : Int), (0 : Int))) := by kernel_rfl
theorem f95_is {c : Cc} {w n : Int} (hc : okC c) : f95 (c.1, (c.2.1, (c.2.2.1, (c.2.2.2.1, (c.2.2.2.2.1, (c.2.2.2.2.2.1, (c.2.2.2.2.2.2.1, (c.2.2.2.2.2.2.2.1, (c.2.2.2.2.2.2.2.2))))))))) w n = some ((sLose c w n).1, ((sLose c w n).2.1, (sLose c w n).2.2)) := by
  obtain ⟨b0, p0, t0, l0, b1, p1, t1, l1, s⟩ := c
  obtain ⟨h1, h2⟩ := hc
  simp only [] at h1 h2
  unfold sLose
  simp only []
  by_cases w0 : w = 0
  · subst w0
    rw [if_pos rfl, e95_0]
    by_cases hn : n < 0
    · rw [if_pos hn, decide_eq_true hn, cond_true]
    · rw [if_neg hn, decide_eq_false hn, cond_false, e113_0, cut2_is _ hn h1]
      simp only [take_len]
  · rw [if_neg w0]
    by_cases w1 : w = 1
    · subst w1
      rw [if_pos rfl, e95_1]
      by_cases hn : n < 0
      · rw [if_pos hn, decide_eq_true hn, cond_true]
      · rw [if_neg hn, decide_eq_false hn, cond_false, e113_1, cut2_is _ hn h2]
        simp only [take_len]
    · rw [if_neg w1]
      show p95 f112 f113 0 (b0, (p0, (t0, (l0, (b1, (p1, (t1, (l1, s)))))))) w n = _
      unfold p95
      rw [f112_no w0 w1]
      rfl
end Go.Proofs.YtcnkihdjenjdgaaE
