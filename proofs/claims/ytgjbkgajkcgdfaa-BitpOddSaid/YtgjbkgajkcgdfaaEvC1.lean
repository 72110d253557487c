/- Chapter 1: what the functions answer. -/
import Derived.Test.YtgjbkgajkcgdfaaEvSy
import Derived.Test.YtgjbkgajkcgdfaaEvFA
namespace Go.Proofs.YtgjbkgajkcgdfaaE
open Go
set_option linter.unusedVariables false
set_option linter.unusedSimpArgs false
variable {X : Nat → List V → Option (V × List Blk)}

/-! ### the document's Same -/
abbrev e23 (la lb : List Int) (i : Nat) (x4 x10 x14 x25 : V) : Env := [(0, .rs la.length (.ints .u8 la)), (1, .rs lb.length (.ints .u8 lb)), (4, x4), (5, .int .i64 i), (10, x10), (14, x14), (25, x25)]
abbrev e23' (la lb : List Int) (x4 x5 x10 : V) : Env := [(0, .rs la.length (.ints .u8 la)), (1, .rs lb.length (.ints .u8 lb)), (4, x4), (5, x5), (10, x10), (14, .tup []), (25, .tup [])]
abbrev e23'' (la lb : List Int) : Env := e23' la lb (.bool false) (.tup []) (.bool true)
theorem head23 (la lb : List Int) (i : Nat) (x4 x10 x14 x25 : V) : atHead 0 [0, 1, 5] (e23 la lb i x4 x10 x14 x25, []) = some (e23 la lb i .undef .undef .undef .undef, []) := by kernel_rfl
theorem round23 (la lb : List Int) (i : Nat) (hl : la.length = lb.length) (hi : i < la.length) (hb : la.length < 2 ^ 60) :
    ev (evF FT X 0) (ownOf FT) 0 20 (bodyOf (loopN k23 0)) (e23 la lb i .undef .undef .undef .undef, []) =
      if la[i]'hi = lb[i]'(by omega) then some (.norm, e23 la lb (i + 1) .undef .undef (.bool true) (.bool false), []) else some (.ret, e23 la lb i (.bool false) .undef (.bool true) (.bool true), []) := by
  have hi2 : i < lb.length := by omega
  have hw : IntKind.i64.wrap ((i : Int) + 1) = (i : Int) + 1 := wrap64 (by omega) (by omega)
  by_cases e : la[i] = lb[i]
  · have hbe : (la[i] != lb[i]) = false := by simp [e]
    simp [loopN, loopsOf, k23, bodyOf, ev, evOps, wants, evOp, evQ, R.ev, look, push, vbin, vint, isShift, C.len, C.get, C.drop, hi, hi2, commit, hw, hbe]
    simp [e]
  · have hbe : (la[i] != lb[i]) = true := by simp [e]
    simp [loopN, loopsOf, k23, bodyOf, ev, evOps, wants, evOp, evQ, R.ev, look, push, vbin, vint, isShift, C.len, C.get, C.drop, hi, hi2, commit, hw, hbe]
    simp [e]
theorem end23 (la lb : List Int) (hb : la.length < 2 ^ 60) :
    ev (evF FT X 0) (ownOf FT) 0 20 (bodyOf (loopN k23 0)) (e23 la lb la.length .undef .undef .undef .undef, []) = some (.exit 0, e23 la lb la.length .undef .undef (.bool false) .undef, []) := by
  simp [loopN, loopsOf, k23, bodyOf, ev, evOps, wants, evOp, evQ, R.ev, look, push, vbin, vint, isShift, C.len, C.get, C.drop, commit]
theorem loop23 (la lb : List Int) (hl : la.length = lb.length) (hb : la.length < 2 ^ 60) : ∀ (d i : Nat) (x4 x10 x14 x25 : V), i + d = la.length →
    if la.drop i = lb.drop i then Runs FT X 0 (loopN k23 0) (e23 la lb i x4 x10 x14 x25, []) (.exit 0) (e23 la lb la.length .undef .undef (.bool false) .undef, [])
    else ∃ j, Runs FT X 0 (loopN k23 0) (e23 la lb i x4 x10 x14 x25, []) .ret (e23 la lb j (.bool false) .undef (.bool true) (.bool true), []) := by
  have hloop : loopN k23 0 = .loop [0, 1, 5] (bodyOf (loopN k23 0)) := rfl
  intro d
  induction d with
  | zero =>
    intro i x4 x10 x14 x25 hd
    have hd : i = la.length := by omega
    subst hd
    rw [if_pos (by simp [hl])]
    rw [hloop]
    exact runs_loop_out (head23 ..) (runs_ev (end23 la lb hb)) (by simp)
  | succ d ih =>
    intro i x4 x10 x14 x25 hd
    have hi : i < la.length := by omega
    have hi2 : i < lb.length := by omega
    have hr := round23 (X := X) la lb i hl hi hb
    have h1 : la.drop i = la[i] :: la.drop (i + 1) := List.drop_eq_getElem_cons hi
    have h2 : lb.drop i = lb[i] :: lb.drop (i + 1) := List.drop_eq_getElem_cons hi2
    rw [h1, h2]
    by_cases e : la[i] = lb[i]
    · rw [if_pos e] at hr
      have := ih (i + 1) .undef .undef (.bool true) (.bool false) (by omega)
      by_cases e2 : la.drop (i + 1) = lb.drop (i + 1)
      · rw [if_pos e2] at this
        rw [if_pos (by rw [e, e2])]
        rw [hloop] at this ⊢
        exact runs_loop (head23 ..) (runs_ev hr) this
      · rw [if_neg e2] at this
        rw [if_neg (by intro h; exact e2 (List.cons.inj h).2)]
        obtain ⟨j, this⟩ := this
        rw [hloop] at this ⊢
        exact ⟨j, runs_loop (head23 ..) (runs_ev hr) this⟩
    · rw [if_neg e] at hr
      rw [if_neg (by intro h; exact e (List.cons.inj h).1)]
      rw [hloop]
      exact ⟨i, runs_loop_out (head23 ..) (runs_ev hr) (by simp)⟩

theorem ans23 (la lb : List Int) (hb : la.length < 2 ^ 60) : Ans FT X 23 [.rs la.length (.ints .u8 la), .rs lb.length (.ints .u8 lb)] [] (.bool (decide (la = lb))) [] := by
  by_cases hl : la.length = lb.length
  · have h0 := loop23 (X := X) la lb hl hb la.length 0 (.bool false) (.bool false) (.tup []) (.tup []) (by omega)
    simp only [List.drop_zero] at h0
    have hne : ((la.length : Int) != (lb.length : Int)) = false := by simp [hl]
    have pre : ∀ (r : Ex) (s1 s' : St), Runs FT X 0 (.block 0 (loopN k23 0)) (e23 la lb 0 (.bool false) (.bool false) (.tup []) (.tup []), []) r s1 → (r = .norm → Runs FT X 0 (.seq (.region [⟨some 4, .mv (.c (.bool true)), none, []⟩] false) .ret) s1 .ret s') → (r = .ret → s' = s1) → (r = .norm ∨ r = .ret) →
        Runs FT X 0 k23.body (env0 k23 [.rs la.length (.ints .u8 la), .rs lb.length (.ints .u8 lb)], []) .ret s' := by
      intro r s1 s' h1 h2 h3 h4
      show Runs FT X 0 (.seq _ (.seq _ (.seq (.seq _ (.block 0 (loopN k23 0))) _))) _ _ _
      refine runs_seq (s1 := (e23' la lb (.bool false) (.tup []) (.tup []), [])) (runs_ev (n := 20) (c := 0) (by simp [env0, k23, ev, evOps, wants, evOp, evQ, R.ev, look, push, commit])) ?_
      refine runs_seq (s1 := (e23' la lb (.bool false) (.tup []) (.bool false), [])) (runs_ev (n := 20) (c := 0) (by simp [ev, evOps, wants, evOp, evQ, R.ev, look, push, commit, vbin, vint, isShift, hne])) ?_
      have hR : Runs FT X 0 (.region [⟨some 5, .mv (.c (.int .i64 0)), none, []⟩] false) (e23' la lb (.bool false) (.tup []) (.bool false), []) .norm (e23 la lb 0 (.bool false) (.bool false) (.tup []) (.tup []), []) := runs_ev (n := 20) (c := 0) (by simp [ev, evOps, wants, evOp, evQ, R.ev, look, push, commit])
      rcases h4 with rfl | rfl
      · exact runs_seq (runs_seq hR h1) (h2 rfl)
      · rw [h3 rfl]
        exact runs_seq_out (runs_seq hR h1) (by simp)
    by_cases e : la = lb
    · rw [if_pos e] at h0
      refine ans_of (r := .ret) (fn := k23) rfl (by simp [k23]) (e1 := e23 la lb la.length (.bool true) .undef (.bool false) .undef) (H1 := []) (pre .norm _ _ (runs_block_exit h0) (fun _ => ?_) (fun h => (by cases h)) (.inl rfl)) (.inr rfl) (rs := [.bool true]) ?_ ?_
      · exact runs_seq (runs_ev (n := 20) (c := 0) rfl) runs_ret
      · rfl
      · simp [e]; kernel_rfl
    · rw [if_neg e] at h0
      obtain ⟨j, h0⟩ := h0
      refine ans_of (r := .ret) (fn := k23) rfl (by simp [k23]) (pre .ret _ _ (runs_block h0 (by simp)) (fun h => (by cases h)) (fun _ => rfl) (.inr rfl)) (.inr rfl) (rs := [.bool false]) ?_ ?_
      · rfl
      · simp [e]; kernel_rfl
  · have hne : ((la.length : Int) != (lb.length : Int)) = true := by simp; omega
    have e : la ≠ lb := fun h => hl (by rw [h])
    refine ans_of (r := .ret) (fn := k23) rfl (by simp [k23]) (runs_ev (n := 20) (c := 0) (s' := (e23'' la lb, [])) (by simp [e23'', env0, k23, ev, evOps, wants, evOp, evQ, R.ev, look, push, commit, vbin, vint, isShift, hne])) (.inr rfl) (rs := [.bool false]) ?_ ?_
    · rfl
    · simp [e]; kernel_rfl
end Go.Proofs.YtgjbkgajkcgdfaaE
