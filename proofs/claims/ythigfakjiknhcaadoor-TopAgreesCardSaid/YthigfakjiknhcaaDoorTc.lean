/- Text and Kind. -/
import Derived.Test.YthigfakjiknhcaaDoorTb
namespace Go.Proofs.YthigfakjiknhcaaDoorT
open Go Go.Proofs Go.RowKit
set_option linter.unusedSimpArgs false
set_option linter.unusedVariables false
set_option maxHeartbeats 4000000 in
set_option maxRecDepth 1000000 in
theorem kind_any {w : World} {t : Tm} {v : Value} (h : RT w t v) : Calls Tryd.prog 52 #[v] w fun e w' => e = .returned (.int .i64 (t.kind : Nat)) ∧ w' = w := by
  cases h with
  | atom s =>
    go_enter Tryd.func52, Tryd.ntmps52
    go_wp2
    go_ret
    exact ⟨rfl, rfl⟩
  | pair a b x y r h ha hb =>
    go_enter Tryd.func52, Tryd.ntmps52
    go_wp2
    go_ret
    exact ⟨rfl, rfl⟩
  | hash a x r h ha =>
    go_enter Tryd.func52, Tryd.ntmps52
    go_wp2
    go_ret
    exact ⟨rfl, rfl⟩
  | lock k a x y r h ha hb =>
    go_enter Tryd.func52, Tryd.ntmps52
    go_wp2
    go_ret
    exact ⟨rfl, rfl⟩
theorem cat_run (x y : List UInt8) (h : x.length + y.length ≤ 100000) (w : World) : (Op.stringOp .add ⟨x.toArray⟩ ⟨y.toArray⟩).run Tryd.prog w = .ok (str (x ++ y)) w :=
  run_string_add_lists w x y (by omega) (by omega)
theorem cat4 (o c : UInt8) (x y : List UInt8) (h : x.length + y.length ≤ 90000) : ∃ z1 z2 z3 : ByteArray, (∀ w : World, (Op.stringOp .add ⟨#[o]⟩ ⟨x.toArray⟩).run Tryd.prog w = .ok (.string z1) w) ∧ (∀ w : World, (Op.stringOp .add z1 ⟨#[32]⟩).run Tryd.prog w = .ok (.string z2) w) ∧
    (∀ w : World, (Op.stringOp .add z2 ⟨y.toArray⟩).run Tryd.prog w = .ok (.string z3) w) ∧ (∀ w : World, (Op.stringOp .add z3 ⟨#[c]⟩).run Tryd.prog w = .ok (str (o :: (x ++ (32 :: (y ++ [c]))))) w) := by
  refine ⟨⟨([o] ++ x).toArray⟩, ⟨(([o] ++ x) ++ [32]).toArray⟩, ⟨((([o] ++ x) ++ [32]) ++ y).toArray⟩, fun w => cat_run [o] x (by simp; omega) w, fun w => cat_run _ [32] (by simp; omega) w, fun w => cat_run _ y (by simp; omega) w, fun w => ?_⟩
  have := cat_run ((([o] ++ x) ++ [32]) ++ y) [c] (by simp; omega) w
  rw [show o :: (x ++ (32 :: (y ++ [c]))) = ((([o] ++ x) ++ [32]) ++ y) ++ [c] by simp]
  exact this
set_option maxHeartbeats 4000000 in
set_option maxRecDepth 1000000 in
theorem text_any : ∀ (t : Tm) (w : World) (v : Value), t.text.length ≤ 50000 → RT w t v → Calls Tryd.prog 45 #[v] w fun e w' => e = .returned (str t.text) ∧ ∃ n, w' = w.drewN n := by
  intro t
  induction t with
  | atom s =>
    intro w v hl h
    cases h
    go_enter Tryd.func45, Tryd.ntmps45
    go_wp2
    go_ret
    exact ⟨rfl, 0, rfl⟩
  | hash a iha =>
    intro w v hl h
    cases h with
    | hash _ x r h ha =>
      have c0 := cell_at h 0
      simp at c0
      simp only [Tm.text, List.length_cons] at hl
      have k1 : ∀ w : World, (Op.stringOp .add ⟨#[35]⟩ ⟨a.text.toArray⟩).run Tryd.prog w = .ok (str (35 :: a.text)) w := cat_run [35] a.text (by simp; omega)
      go_enter Tryd.func45, Tryd.ntmps45
      go_wp2_with (go_at_call 45; refine (iha _ _ (by omega) ha).mono ?_)
      rintro e w1 ⟨rfl, n, rfl⟩
      go_wp2
      go_ret
      exact ⟨rfl, n, rfl⟩
  | pair a b iha ihb =>
    intro w v hl h
    cases h with
    | pair _ _ x y r h ha hb =>
      have c0 := cell_at h 0
      have c1 := cell_at h 1
      simp at c0 c1
      simp only [Tm.text, List.length_cons, List.length_append, List.length_nil] at hl
      obtain ⟨z1, z2, z3, k1, k2, k3, k4⟩ := cat4 40 41 a.text b.text (by omega)
      go_enter Tryd.func45, Tryd.ntmps45
      go_wp2_with fail
      go_quiet (first
        | (go_at_call_of 45 x; refine Calls.quiet_of (iha _ _ ?_ ?_); omega; exact ha.drewN _)
        | (go_at_call_of 45 y; refine Calls.quiet_of (ihb _ _ ?_ ?_); omega; exact hb.drewN _))
      go_wp2_with fail
      go_ret
      exact ⟨rfl, nq, rfl⟩
  | lock a b iha ihb =>
    intro w v hl h
    cases h with
    | lock _ _ x y r h ha hb =>
      have c0 := cell_at h 0
      have c1 := cell_at h 1
      simp at c0 c1
      simp only [Tm.text, List.length_cons, List.length_append, List.length_nil] at hl
      obtain ⟨z1, z2, z3, k1, k2, k3, k4⟩ := cat4 91 93 a.text b.text (by omega)
      go_enter Tryd.func45, Tryd.ntmps45
      go_wp2_with fail
      go_quiet (first
        | (go_at_call_of 45 x; refine Calls.quiet_of (iha _ _ ?_ ?_); omega; exact ha.drewN _)
        | (go_at_call_of 45 y; refine Calls.quiet_of (ihb _ _ ?_ ?_); omega; exact hb.drewN _))
      go_wp2_with fail
      go_ret
      exact ⟨rfl, nq, rfl⟩
end Go.Proofs.YthigfakjiknhcaaDoorT
