/- A run is asked. -/
import Derived.Test.YthigfakjiknhcaaDoorTya
import Derived.BigQuiet
namespace Go.Proofs.YthigfakjiknhcaaDoorT
open Go Go.Proofs Go.RowKit
set_option linter.unusedSimpArgs false
set_option linter.unusedVariables false
def asksF (σ : St) (x : Ev) : Bool × St :=
  match inO σ.r x.i 0 with
  | none => (false, σ)
  | some k => if knownB σ.ks x.a && knownB σ.ks x.b then
      let e := nth σ.r k
      let r := respO e.u (parse x.b).1 e.own
      let σ' := sayS σ [mkP e.own r]
      if sayB σ [mkP e.own r] then (true, { σ' with r := σ'.r.set k { e with st := 1, n := (parse x.a).1, r := r } }) else (false, σ)
    else (false, σ)
theorem sayS_s (σ : St) (ts : List (Option Tm)) : (sayS σ ts).s = σ.s := by unfold sayS; split <;> rfl
theorem sayS_r (σ : St) (ts : List (Option Tm)) : (sayS σ ts).r = σ.r := by unfold sayS; split <;> rfl
theorem XB.ev {w : World} {E : Nat} {kd xi xu : Int} {xh xa xb : List UInt8} (h : XB w E #[.int .i64 kd, .int .i64 xi, .int .i64 xu, str xh, str xa, str xb]) :
    w.cell? ⟨E, 1, none⟩ = some (.int .i64 xi) ∧ w.cell? ⟨E, 2, none⟩ = some (.int .i64 xu) ∧ w.cell? ⟨E, 3, none⟩ = some (str xh) ∧ w.cell? ⟨E, 4, none⟩ = some (str xa) ∧ w.cell? ⟨E, 5, none⟩ = some (str xb) :=
  ⟨h.cell 1, h.cell 2, h.cell 3, h.cell 4, h.cell 5⟩
set_option maxHeartbeats 8000000 in
set_option maxRecDepth 1000000 in
theorem asks_no {n0 : Nat} {w : World} {b : Nat} {σ : St} (h : WW n0 w b σ) (kd xi xu : Int) (xh xa xb : List UInt8) (la : xa.length ≤ 100000) (lb : xb.length ≤ 100000) (ok : σ.ok) (hbad : inO σ.r xi 0 = none ∨ knownB σ.ks xa = false ∨ knownB σ.ks xb = false) :
    Calls Tryd.prog 20 #[.pointer (some ⟨b, 0, none⟩), (Ev.mk kd xi xu xh xa xb).val] w (TP n0 w b (false, σ)) := by
  obtain ⟨kb, vs, vr, ps, pr, h⟩ := h
  have hx1 : WX n0 (w.alloc (.cells (Ev.mk kd xi xu xh xa xb).cs 29)) b kb vs vr ps pr σ := h.below (al_below _ _)
  have hb1 : BQ n0 w (w.alloc (.cells (Ev.mk kd xi xu xh xa xb).cs 29)) := (al_below _ _).up h.ln
  have hX1 : XB (w.alloc (.cells (Ev.mk kd xi xu xh xa xb).cs 29)) w.heap.size (Ev.mk kd xi xu xh xa xb).cs := new_blk _ _ _
  have h6 : pr.length ≤ 1000 := by have := ok.lr; have := h.re.1; omega
  simp only [Ev.cs, Ev.val] at *
  have hsp : ∃ y B, B = (inO σ.r xi 0).isSome ∧ ∀ n, Calls Tryd.prog 37 #[vr, .int .i64 xi, .int .i64 0] ((w.alloc (.cells #[.int .i64 kd, .int .i64 xi, .int .i64 xu, str xh, str xa, str xb] 29)).drewN n) fun e w' => e = .returned (.tuple #[.pointer y, .bool B]) ∧ w' = (w.alloc (.cells #[.int .i64 kd, .int .i64 xi, .int .i64 xu, str xh, str xa, str xb] 29)).drewN n := by
    cases ho : inO σ.r xi 0 with
    | none => exact ⟨none, false, rfl, fun n => in_no (hx1.below (drew_below _ n)).r (hx1.below (drew_below _ n)).re h6 ho⟩
    | some k =>
      obtain ⟨e, he, _, _⟩ := inO_some ho
      have hlt := (List.getElem?_eq_some_iff.1 he).1
      exact ⟨_, true, rfl, fun n => in_yes (hx1.below (drew_below _ n)).r (hx1.below (drew_below _ n)).re h6 ho (List.getElem?_eq_getElem (show k < pr.length by have := h.re.1; omega))⟩
  obtain ⟨y, B, hB, h37⟩ := hsp
  have hbad' : B = false ∨ knownB σ.ks xa = false ∨ knownB σ.ks xb = false := by
    rcases hbad with h1 | h1
    · rw [hB, h1]; exact Or.inl rfl
    · exact Or.inr h1
  clear hB hbad
  have c2 := hx1.cell2
  obtain ⟨e1, e2, e3, e4, e5⟩ := hX1.ev
  have hk1 := fun w1 (hh : WX n0 w1 b kb vs vr ps pr σ) => known_any hh xa la
  have hk2 := fun w1 (hh : WX n0 w1 b kb vs vr ps pr σ) => known_any hh xb lb
  generalize knownB σ.ks xa = B2 at *
  generalize knownB σ.ks xb = B3 at *
  cases B <;> cases B2 <;> cases B3 <;>
  first
  | (exfalso; rcases hbad' with h | h | h <;> cases h; done)
  | (go_enter Tryd.func20, Tryd.ntmps20
     go_wp2_with fail
     generalize w.alloc (.cells #[.int .i64 kd, .int .i64 xi, .int .i64 xu, str xh, str xa, str xb] 29) = W1 at *
     go_quiet (first | (go_at_call 37; exact Calls.quiet_of_same (h37 _)))
     have hx2 := hx1.below (drew_below W1 nq)
     have X2 := hX1.below (drew_below W1 nq)
     have h38 := hk1 _ hx2
     have B2' : BQ n0 w (W1.drewN nq) := hb1.trans ((drew_below W1 nq).up hx1.ln)
     generalize W1.drewN nq = W2 at *
     obtain ⟨f1, f2, f3, f4, f5⟩ := X2.ev
     go_wp2_with (go_at_call 38; refine Calls.mono h38 (fun e w1 hp => ?_); obtain ⟨⟨v, rfl, hv⟩, b2⟩ := hp; have hx3 := hx2.below b2; have X3 := X2.below b2; have B3' := B2'.trans (b2.up hx2.ln); obtain ⟨g1, g2, g3, g4, g5⟩ := X3.ev; have h38 := hk2 _ hx3)
     go_wp2_with (go_at_call 38; refine Calls.mono h38 (fun e w2 hp => ?_); obtain ⟨⟨v2, rfl, hv2⟩, b3⟩ := hp; have hx4 := hx3.below b3; have B4' := B3'.trans (b3.up hx3.ln))
     go_ret
     exact ⟨rfl, ⟨_, _, _, _, _, hx4⟩, B4'⟩)
end Go.Proofs.YthigfakjiknhcaaDoorT
