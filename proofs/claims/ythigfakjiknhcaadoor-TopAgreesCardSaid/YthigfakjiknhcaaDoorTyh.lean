/- Do: any event. -/
import Derived.Test.YthigfakjiknhcaaDoorTyg
namespace Go.Proofs.YthigfakjiknhcaaDoorT
open Go Go.Proofs Go.RowKit
set_option linter.unusedSimpArgs false
set_option linter.unusedVariables false
theorem serves_any {n0 : Nat} {w : World} {b : Nat} {σ : St} (h : WW n0 w b σ) (x : Ev) (hx : x.ok) (ok : σ.ok) : Calls Tryd.prog 18 #[.pointer (some ⟨b, 0, none⟩), x.val] w (TP n0 w b (servesF σ x)) := by
  obtain ⟨kd, xi, xu, xh, xa, xb⟩ := x
  by_cases hb : σ.s.length = 6 ∨ certB xh = false
  · have he : servesF σ ⟨kd, xi, xu, xh, xa, xb⟩ = (false, σ) := by unfold servesF; rw [if_pos hb]
    rw [he]
    exact serves_bad h kd xi xu xh xa xb hx.h ok.ls hb
  · have := ok.ls
    refine serves_good h kd xi xu xh xa xb hx.h ?_ ?_
    · have : ¬ σ.s.length = 6 := fun hh => hb (Or.inl hh)
      omega
    · cases hc : certB xh with
      | true => rfl
      | false => exact absurd (Or.inr hc) hb
theorem asks_any {n0 : Nat} {w : World} {b : Nat} {σ : St} (h : WW n0 w b σ) (x : Ev) (hx : x.ok) (ok : σ.ok) : Calls Tryd.prog 20 #[.pointer (some ⟨b, 0, none⟩), x.val] w (TP n0 w b (asksF σ x)) := by
  obtain ⟨kd, xi, xu, xh, xa, xb⟩ := x
  cases hi : inO σ.r xi 0 with
  | none =>
    have he : asksF σ ⟨kd, xi, xu, xh, xa, xb⟩ = (false, σ) := by simp only [asksF, hi]
    rw [he]
    exact asks_no h kd xi xu xh xa xb hx.a hx.b ok (Or.inl hi)
  | some k =>
    cases hA : knownB σ.ks xa with
    | false =>
      have he : asksF σ ⟨kd, xi, xu, xh, xa, xb⟩ = (false, σ) := by simp only [asksF, hi, hA]; simp
      rw [he]
      exact asks_no h kd xi xu xh xa xb hx.a hx.b ok (Or.inr (Or.inl hA))
    | true =>
      cases hB : knownB σ.ks xb with
      | false =>
        have he : asksF σ ⟨kd, xi, xu, xh, xa, xb⟩ = (false, σ) := by simp only [asksF, hi, hA, hB]; simp
        rw [he]
        exact asks_no h kd xi xu xh xa xb hx.a hx.b ok (Or.inr (Or.inr hB))
      | true => exact asks_yes h kd xi xu xh xa xb hx.a hx.b ok hi hA hB
theorem tells_any {n0 : Nat} {w : World} {b : Nat} {σ : St} (h : WW n0 w b σ) (x : Ev) (hx : x.ok) (ok : σ.ok) : Calls Tryd.prog 21 #[.pointer (some ⟨b, 0, none⟩), x.val] w (TP n0 w b (tellsF σ x)) := by
  obtain ⟨kd, xi, xu, xh, xa, xb⟩ := x
  cases hi : inO σ.r xi 1 with
  | none =>
    have he : tellsF σ ⟨kd, xi, xu, xh, xa, xb⟩ = (false, σ) := by simp only [tellsF, hi]
    rw [he]
    exact tells_no h kd xi xu xh xa xb hx.a hx.b ok (Or.inl hi)
  | some k =>
    cases hA : knownB σ.ks xa with
    | false =>
      have he : tellsF σ ⟨kd, xi, xu, xh, xa, xb⟩ = (false, σ) := by simp only [tellsF, hi, hA]; simp
      rw [he]
      exact tells_no h kd xi xu xh xa xb hx.a hx.b ok (Or.inr hA)
    | true => exact tells_yes h kd xi xu xh xa xb hx.a hx.b ok hi hA
theorem proves_any {n0 : Nat} {w : World} {b : Nat} {σ : St} (h : WW n0 w b σ) (x : Ev) (hx : x.ok) (ok : σ.ok) : Calls Tryd.prog 22 #[.pointer (some ⟨b, 0, none⟩), x.val] w (TP n0 w b (provesF σ x)) := by
  obtain ⟨kd, xi, xu, xh, xa, xb⟩ := x
  cases hi : inO σ.s xi 0 with
  | none =>
    have he : provesF σ ⟨kd, xi, xu, xh, xa, xb⟩ = (false, σ) := by simp only [provesF, hi]
    rw [he]
    exact proves_no h kd xi xu xh xa xb hx.a hx.b ok (Or.inl hi)
  | some k =>
    by_cases hb : knownB σ.ks xa = false ∨ knownB σ.ks xb = false ∨ userB xu = false
    · have he : provesF σ ⟨kd, xi, xu, xh, xa, xb⟩ = (false, σ) := by
        simp only [provesF, hi]
        rw [if_neg]
        rcases hb with h | h | h <;> simp [h]
      rw [he]
      exact proves_no h kd xi xu xh xa xb hx.a hx.b ok (Or.inr hb)
    · have hA : knownB σ.ks xa = true := by cases hh : knownB σ.ks xa with | true => rfl | false => exact absurd (Or.inl hh) hb
      have hB : knownB σ.ks xb = true := by cases hh : knownB σ.ks xb with | true => rfl | false => exact absurd (Or.inr (Or.inl hh)) hb
      have hU : userB xu = true := by cases hh : userB xu with | true => rfl | false => exact absurd (Or.inr (Or.inr hh)) hb
      exact proves_yes h kd xi xu xh xa xb hx.a hx.b ok hi hA hB hU
theorem bind_any {n0 : Nat} {w : World} {b : Nat} {σ : St} (h : WW n0 w b σ) (x : Ev) (hx : x.ok) (ok : σ.ok) : Calls Tryd.prog 23 #[.pointer (some ⟨b, 0, none⟩), x.val] w (TP n0 w b (bindF σ x)) := by
  obtain ⟨kd, xi, xu, xh, xa, xb⟩ := x
  cases hi : inO σ.s xi 1 with
  | none =>
    have he : bindF σ ⟨kd, xi, xu, xh, xa, xb⟩ = (false, σ) := by simp only [bindF, hi]
    rw [he]
    exact bind_no h kd xi xu xh xa xb hx.a hx.b ok (Or.inl hi)
  | some k =>
    cases hA : knownB σ.ks xa with
    | false =>
      have he : bindF σ ⟨kd, xi, xu, xh, xa, xb⟩ = (false, σ) := by simp only [bindF, hi, hA]; simp
      rw [he]
      exact bind_no h kd xi xu xh xa xb hx.a hx.b ok (Or.inr hA)
    | true => exact bind_yes h kd xi xu xh xa xb hx.a hx.b ok hi hA
def doF (σ : St) (x : Ev) : Bool × St :=
  if x.kind = 1 then servesF σ x else if x.kind = 2 then runsF σ x else if x.kind = 3 then asksF σ x else if x.kind = 4 then tellsF σ x
  else if x.kind = 5 then provesF σ x else if x.kind = 6 then bindF σ x else if x.kind = 7 then leaksF σ x.u else (false, σ)
set_option maxHeartbeats 8000000 in
set_option maxRecDepth 1000000 in
theorem ok17_any {w : World} {b kb : Nat} (hc : w.cell? ⟨b, 0, none⟩ = some (.pointer (some ⟨kb, 0, none⟩))) : Calls Tryd.prog 17 #[.pointer (some ⟨b, 0, none⟩)] w fun e w' => e = .returned (.bool true) ∧ w' = w := by
  go_enter Tryd.func17, Tryd.ntmps17
  go_wp2
  go_ret
  exact ⟨rfl, rfl⟩
end Go.Proofs.YthigfakjiknhcaaDoorT
