/- The law BitpWords answers true. -/
import Derived.Test.YtgjbkgajkcgdfaaEvB3P
namespace Go.Proofs.YtgjbkgajkcgdfaaE
open Go
set_option linter.unusedSimpArgs false
set_option linter.unusedVariables false
section
variable {c26 : Option Bool} {c27 c28 : Int → Int → List Int → Option (Int × Int)} {c29 c30 : Int → Int → Int → Option (Int × Int)} {c31 c32 : Int → Int → Int → Option (Int × Int × Int)} {c33 c34 : Int → Int → Int → Option Int}
theorem p12_is {x w n i : Int} {t : List Int} {r5 r7 : Int × Int} {r9 : Int × Int × Int} {r11 : Int} (A : c26 = some true) (F1 : c27 x w t = some r5) (F2 : c28 x w t = some r5) (F3 : c29 x w n = some r7) (F4 : c30 x w n = some r7) (F5 : c31 x w i = some r9) (F6 : c32 x w i = some r9)
    (F7 : c33 x w i = some r11) (F8 : c34 x w i = some r11) : p12 c26 c27 c28 c29 c30 c31 c32 c33 c34 0 x [w, n, i] t = some true := by
  rw [p12.eq_def]
  by_cases h : ((t.length : Nat) : Int) > 200
  · simp only [h, decide_true, cond_true, A]
  · simp only [h, decide_false, cond_false, List.getElem?_cons_zero, List.getElem?_cons_succ, F1, F2, F3, F4, F5, F6, F7, F8, A, beq_self_eq_true, cond_true]
end
def f12 (x : Int) (l t : List Int) : Option Bool :=
  if isW x ∧ l.length = 3 ∧ (∀ i ∈ l, -2 ^ 63 ≤ i ∧ i < 2 ^ 63) ∧ (∀ i ∈ t, -2 ^ 63 ≤ i ∧ i < 2 ^ 63) then some true else none
theorem f27_some {x w : Int} {t : List Int} (h : isW x ∧ (∀ i ∈ t, -2 ^ 63 ≤ i ∧ i < 2 ^ 63)) : ∃ r, f27 x w t = some r := by
  unfold f27
  rw [if_pos h]
  split
  · split <;> exact ⟨_, rfl⟩
  · exact ⟨_, rfl⟩
theorem f29_some {x w n : Int} (h : isW x) : ∃ r, f29 x w n = some r := by
  unfold f29
  rw [if_pos h]
  split <;> exact ⟨_, rfl⟩
theorem f31_some {x w n : Int} (h : isW x) : ∃ r, f31 x w n = some r := by
  unfold f31
  rw [if_pos h]
  split <;> exact ⟨_, rfl⟩
theorem E12 : EntOK FT XT 12 (en12 f12) := ok12 f26 f27 f27 f29 f29 f31 f31 f33 f33 E26 E27 E28 E29 E30 E31 E32 E33 E34 (fun x l t r h => ⟨0, by
  simp only [f12] at h
  split at h <;> try (cases h; done)
  rename_i hc
  obtain ⟨hx, hl, hi, ht⟩ := hc
  injection h with h; subst h
  match l, hl with
  | [w, n, i], _ =>
    obtain ⟨r5, F1⟩ := f27_some (w := w) ⟨hx, ht⟩
    obtain ⟨r7, F3⟩ := f29_some (w := w) (n := n) hx
    obtain ⟨r9, F5⟩ := f31_some (w := w) (n := i) hx
    exact p12_is rfl F1 F1 F3 F3 F5 F5 (if_pos ⟨hx, hi i (by simp)⟩) (if_pos ⟨hx, hi i (by simp)⟩)⟩)
theorem law12 (z0 : Int) (z1 z2 : List Int) (h0 : (Lit.int .u64 z0).wf = true) (h1 : ∀ x ∈ z1, (Lit.int .i64 x).wf = true) (h2 : z2.length ≤ maxLen ∧ ∀ x ∈ z2, (Lit.int .i64 x).wf = true) (hs : z1.length = 3) :
    Ans FT XT 12 (encL [Sh.int .u64, Sh.ar .i64, Sh.sl (.int .i64)] (z0, (z1, (z2, ())))) [] (.bool true) [] :=
  E12.2 (z0, (z1, (z2, ()))) true (if_pos ⟨wf_u rfl h0, hs, fun b hb => wf_i64 (h1 b hb), fun b hb => wf_i64 (h2.2 b hb)⟩)
end Go.Proofs.YtgjbkgajkcgdfaaE
