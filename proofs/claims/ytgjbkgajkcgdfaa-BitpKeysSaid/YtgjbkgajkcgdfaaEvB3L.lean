/- The law BitpKeys answers true. -/
import Derived.Test.YtgjbkgajkcgdfaaEvB3K
namespace Go.Proofs.YtgjbkgajkcgdfaaE
open Go
set_option linter.unusedSimpArgs false
set_option linter.unusedVariables false
section
variable {c26 : Option Bool} {c24 c36 c37 c38 : List Int → Option ((List Int) × Int)} {c23 : List Int → List Int → Option Bool} {c25 c39 : Int → Option Int}
theorem p14_far {a0 : List Int} {a1 : Int} (A : c26 = some true) (h : ((a0.length : Nat) : Int) > 100) : p14 c26 c24 c36 c37 c38 c23 c25 c39 0 a0 a1 = some true := by
  rw [p14.eq_def]; simp only [h, decide_true, cond_true, A]
theorem p14_is {a0 : List Int} {a1 : Int} {s g t : List Int × Int} {o : Int} (A : c26 = some true) (h : ¬ ((a0.length : Nat) : Int) > 100) (F1 : c24 a0 = some s) (F2 : c36 a0 = some s) (F3 : c37 a0 = some g) (F4 : c38 a0 = some g) (F5 : c37 s.1 = some t) (F6 : c23 s.1 s.1 = some true) (F7 : c23 g.1 g.1 = some true) (F8 : c25 a1 = some o) (F9 : c39 a1 = some o)
    (H : s.2 = 0 → t.2 = 0 ∧ c23 t.1 a0 = some true) : p14 c26 c24 c36 c37 c38 c23 c25 c39 0 a0 a1 = some true := by
  rw [p14.eq_def]
  simp only [h, decide_false, cond_false, F1, F2, F3, F4, F5, F6, F7, F8, F9, cond_true, beq_self_eq_true]
  by_cases e : s.2 = 0
  · obtain ⟨h1, h2⟩ := H e
    simp only [e, h1, h2, bne_self_eq_false, beq_self_eq_true, cond_false, cond_true, A]
  · simp only [bne_iff_ne.2 e, cond_true, A]
end
def f14 (l : List Int) (b : Int) : Option Bool := if (∀ b ∈ l, 0 ≤ b ∧ b < 256) ∧ 0 ≤ b ∧ b < 256 then some true else none
theorem f23_same (l : List Int) (h : l.length ≤ 2 ^ 20) : f23 l l = some true := by unfold f23; rw [if_pos h]; simp
theorem E14 : EntOK FT XT 14 (en14 f14) := ok14 f26 f24 f24 f37 f37 f23 f25 f25 E26 E24 E36 E37 E38 E23 E25 E39 (fun l b r h => ⟨0, by
  simp only [f14] at h
  split at h <;> try (cases h; done)
  rename_i hc
  injection h with h; subst h
  by_cases hl : ((l.length : Nat) : Int) > 100
  · exact p14_far rfl hl
  · have hL : l.length ≤ 2 ^ 20 := by omega
    obtain ⟨m, rfl, hm⟩ := allB_nat hc.1
    have hs : ∀ r : List Nat, r.length ≤ 100 → (nI r).length ≤ 2 ^ 20 := fun r h => by rw [nI_len]; omega
    have l1 : (spreadN m).length = 8 := by simp [spreadN]
    have l2 : (gatherN m).length = 7 := by simp [gatherN]
    have l3 : (gatherN (spreadN m)).length = 7 := by simp [gatherN]
    by_cases h7 : m.length = 7
    · have e1 : f24 (nI m) = some (nI (spreadN m), 0) := by
        unfold f24; rw [if_pos ⟨hc.1, hL⟩, if_pos (by rw [nI_len]; exact h7)]; unfold nat8; rw [nI_nat]
      have e2 : f37 (nI m) = some ([], 1) := by
        unfold f37; rw [if_pos ⟨hc.1, hL⟩, if_neg (by rw [nI_len]; omega)]
      have e3 : f37 (nI (spreadN m)) = some (nI m, 0) := by
        unfold f37; rw [if_pos ⟨nI_allB spread_lt, hs _ (by omega)⟩, if_pos (by rw [nI_len]; exact l1)]; unfold nat8; rw [nI_nat, gather_spread hm h7]
      exact p14_is rfl hl e1 e1 e2 e2 e3 (f23_same _ (hs _ (by omega))) (f23_same _ (by decide)) (if_pos hc.2) (if_pos hc.2) (fun _ => ⟨rfl, f23_same _ hL⟩)
    · have e1 : f24 (nI m) = some ([], 1) := by
        unfold f24; rw [if_pos ⟨hc.1, hL⟩, if_neg (by rw [nI_len]; exact h7)]
      have e3 : f37 [] = some ([], 1) := rfl
      have e2 : ∃ g, f37 (nI m) = some g ∧ g.1.length ≤ 2 ^ 20 := by
        unfold f37; rw [if_pos ⟨hc.1, hL⟩]
        split
        · refine ⟨_, rfl, ?_⟩
          unfold nat8; rw [nI_nat]
          exact hs _ (by omega)
        · exact ⟨_, rfl, by decide⟩
      obtain ⟨g, e2, hg⟩ := e2
      exact p14_is rfl hl e1 e1 e2 e2 e3 (f23_same _ (by decide)) (f23_same _ hg) (if_pos hc.2) (if_pos hc.2) (fun h => by cases h)⟩)
theorem law14 (z0 : List Int) (z1 : Int) (h0 : z0.length ≤ maxLen ∧ ∀ x ∈ z0, (Lit.int .u8 x).wf = true) (h1 : (Lit.int .u8 z1).wf = true) :
    Ans FT XT 14 (encL [Sh.sl (.int .u8), Sh.int .u8] (z0, (z1, ()))) [] (.bool true) [] :=
  E14.2 (z0, (z1, ())) true (if_pos ⟨fun b hb => wf_u rfl (h0.2 b hb), wf_u rfl h1⟩)
end Go.Proofs.YtgjbkgajkcgdfaaE
