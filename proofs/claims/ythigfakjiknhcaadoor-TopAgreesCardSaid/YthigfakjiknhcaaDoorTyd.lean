/- A run is told. -/
import Derived.Test.YthigfakjiknhcaaDoorTyc
namespace Go.Proofs.YthigfakjiknhcaaDoorT
open Go Go.Proofs Go.RowKit
set_option linter.unusedSimpArgs false
set_option linter.unusedVariables false
def tellsF (σ : St) (x : Ev) : Bool × St :=
  match inO σ.r x.i 1 with
  | none => (false, σ)
  | some k => if knownB σ.ks x.a then
      let e := nth σ.r k
      if sameO (parse x.a).1 (answO e.u e.r) then
        (if sayB σ [bindsO e] then (true, { sayS σ [bindsO e] with r := (sayS σ [bindsO e]).r.set k { e with st := 2 } }) else (false, σ))
      else (true, { σ with r := σ.r.set k { e with st := 3 } })
    else (false, σ)
set_option maxHeartbeats 8000000 in
set_option maxRecDepth 1000000 in
theorem tells_no {n0 : Nat} {w : World} {b : Nat} {σ : St} (h : WW n0 w b σ) (kd xi xu : Int) (xh xa xb : List UInt8) (la : xa.length ≤ 100000) (lb : xb.length ≤ 100000) (ok : σ.ok) (hbad : inO σ.r xi 1 = none ∨ knownB σ.ks xa = false) :
    Calls Tryd.prog 21 #[.pointer (some ⟨b, 0, none⟩), (Ev.mk kd xi xu xh xa xb).val] w (TP n0 w b (false, σ)) := by
  obtain ⟨kb, vs, vr, ps, pr, h⟩ := h
  have hx1 : WX n0 (w.alloc (.cells (Ev.mk kd xi xu xh xa xb).cs 29)) b kb vs vr ps pr σ := h.below (al_below _ _)
  have hb1 : BQ n0 w (w.alloc (.cells (Ev.mk kd xi xu xh xa xb).cs 29)) := (al_below _ _).up h.ln
  have hX1 : XB (w.alloc (.cells (Ev.mk kd xi xu xh xa xb).cs 29)) w.heap.size (Ev.mk kd xi xu xh xa xb).cs := new_blk _ _ _
  have h6 : pr.length ≤ 1000 := by have := ok.lr; have := h.re.1; omega
  simp only [Ev.cs, Ev.val] at *
  have hsp : ∃ y B, B = (inO σ.r xi 1).isSome ∧ ∀ n, Calls Tryd.prog 37 #[vr, .int .i64 xi, .int .i64 1] ((w.alloc (.cells #[.int .i64 kd, .int .i64 xi, .int .i64 xu, str xh, str xa, str xb] 29)).drewN n) fun e w' => e = .returned (.tuple #[.pointer y, .bool B]) ∧ w' = (w.alloc (.cells #[.int .i64 kd, .int .i64 xi, .int .i64 xu, str xh, str xa, str xb] 29)).drewN n := by
    cases ho : inO σ.r xi 1 with
    | none => exact ⟨none, false, rfl, fun n => in_no (hx1.below (drew_below _ n)).r (hx1.below (drew_below _ n)).re h6 ho⟩
    | some k =>
      obtain ⟨e, he, _, _⟩ := inO_some ho
      have hlt := (List.getElem?_eq_some_iff.1 he).1
      exact ⟨_, true, rfl, fun n => in_yes (hx1.below (drew_below _ n)).r (hx1.below (drew_below _ n)).re h6 ho (List.getElem?_eq_getElem (show k < pr.length by have := h.re.1; omega))⟩
  obtain ⟨y, B, hB, h37⟩ := hsp
  have hbad' : B = false ∨ knownB σ.ks xa = false := by
    rcases hbad with h1 | h1
    · rw [hB, h1]; exact Or.inl rfl
    · exact Or.inr h1
  clear hB hbad
  have c2 := hx1.cell2
  obtain ⟨e1, e2, e3, e4, e5⟩ := hX1.ev
  have hk1 := fun w1 (hh : WX n0 w1 b kb vs vr ps pr σ) => known_any hh xa la
  generalize knownB σ.ks xa = B2 at *
  cases B <;> cases B2 <;>
  first
  | (exfalso; revert hbad'; simp; done)
  | (go_enter Tryd.func21, Tryd.ntmps21
     go_wp2_with fail
     generalize w.alloc (.cells #[.int .i64 kd, .int .i64 xi, .int .i64 xu, str xh, str xa, str xb] 29) = W1 at *
     go_quiet (first | (go_at_call 37; exact Calls.quiet_of_same (h37 _)))
     have hx2 := hx1.below (drew_below W1 nq)
     have X2 := hX1.below (drew_below W1 nq)
     have h38 := hk1 _ hx2
     have B2' : BQ n0 w (W1.drewN nq) := hb1.trans ((drew_below W1 nq).up hx1.ln)
     generalize W1.drewN nq = W2 at *
     obtain ⟨f1, f2, f3, f4, f5⟩ := X2.ev
     go_wp2_with (go_at_call 38; refine Calls.mono h38 (fun e w1 hp => ?_); obtain ⟨⟨v, rfl, hv⟩, b2⟩ := hp; have hx3 := hx2.below b2; have B3' := B2'.trans (b2.up hx2.ln))
     go_ret
     exact ⟨rfl, ⟨_, _, _, _, _, hx3⟩, B3'⟩)
set_option maxHeartbeats 8000000 in
set_option maxRecDepth 1000000 in
theorem tells_yes {n0 : Nat} {w : World} {b : Nat} {σ : St} (h : WW n0 w b σ) (kd xi xu : Int) (xh xa xb : List UInt8) (la : xa.length ≤ 100000) (lb : xb.length ≤ 100000) (ok : σ.ok) {k : Nat} (hk : inO σ.r xi 1 = some k) (hA : knownB σ.ks xa = true) :
    Calls Tryd.prog 21 #[.pointer (some ⟨b, 0, none⟩), (Ev.mk kd xi xu xh xa xb).val] w (TP n0 w b (tellsF σ (Ev.mk kd xi xu xh xa xb))) := by
  obtain ⟨kb, vs, vr, ps, pr, h⟩ := h
  obtain ⟨e, he, hst, hxi⟩ := inO_some hk
  have hnth := nth_get he
  have hpl : k < pr.length := by have := (List.getElem?_eq_some_iff.1 he).1; have := h.re.1; omega
  have hp := List.getElem?_eq_getElem hpl
  generalize pr[k] = p at hp
  have hx1 : WX n0 (w.alloc (.cells (Ev.mk kd xi xu xh xa xb).cs 29)) b kb vs vr ps pr σ := h.below (al_below _ _)
  have hb1 : BQ n0 w (w.alloc (.cells (Ev.mk kd xi xu xh xa xb).cs 29)) := (al_below _ _).up h.ln
  have hX1 : XB (w.alloc (.cells (Ev.mk kd xi xu xh xa xb).cs 29)) w.heap.size (Ev.mk kd xi xu xh xa xb).cs := new_blk _ _ _
  have h6 : pr.length ≤ 1000 := by have := ok.lr; have := h.re.1; omega
  have oke := ok.r e (List.mem_of_getElem? he)
  obtain ⟨ta, hta, _⟩ := knownB_some hA
  have hres : tellsF σ (Ev.mk kd xi xu xh xa xb) = if sameO (parse xa).1 (answO e.u e.r) then (if sayB σ [bindsO e] then (true, { sayS σ [bindsO e] with r := (sayS σ [bindsO e]).r.set k { e with st := 2 } }) else (false, σ)) else (true, { σ with r := σ.r.set k { e with st := 3 } }) := by
    simp only [tellsF, hk, hA, hnth, if_true]
  generalize tellsF σ (Ev.mk kd xi xu xh xa xb) = O at *
  simp only [Ev.cs, Ev.val] at *
  have h37 : ∀ n, Calls Tryd.prog 37 #[vr, .int .i64 xi, .int .i64 1] ((w.alloc (.cells #[.int .i64 kd, .int .i64 xi, .int .i64 xu, str xh, str xa, str xb] 29)).drewN n) fun e w' => e = .returned (.tuple #[.pointer (some ⟨p, 0, none⟩), .bool true]) ∧ w' = (w.alloc (.cells #[.int .i64 kd, .int .i64 xi, .int .i64 xu, str xh, str xa, str xb] 29)).drewN n :=
    fun n => in_yes (hx1.below (drew_below _ n)).r (hx1.below (drew_below _ n)).re h6 hk hp
  have c2 := hx1.cell2
  obtain ⟨e1, e2, e3, e4, e5⟩ := hX1.ev
  have hk1 := fun w1 (hh : WX n0 w1 b kb vs vr ps pr σ) => known_any hh xa la
  rw [hA] at hk1
  have hu4 := oke.u
  have hgo := oke.own
  have hgr := oke.r
  have hgn := oke.n
  have hgh := oke.h
  have hga := good_parse xa
  have hgb := good_parse xb
  have H1 := Lib.hid hxi
  have H2 := Lib.hid hst
  have H3 := Lib.hid h6
  have H4 := Lib.hid hpl
  have H5 := Lib.hid hres
  clear hxi hst h6 hpl hres hA hk
  go_enter Tryd.func21, Tryd.ntmps21
  go_wp2_with fail
  generalize w.alloc (.cells #[.int .i64 kd, .int .i64 xi, .int .i64 xu, str xh, str xa, str xb] 29) = W1 at *
  go_quiet (first | (go_at_call 37; exact Calls.quiet_of_same (h37 _)))
  have hx2 := hx1.below (drew_below W1 nq)
  have X2 := hX1.below (drew_below W1 nq)
  have h38 := hk1 _ hx2
  have B2' : BQ n0 w (W1.drewN nq) := hb1.trans ((drew_below W1 nq).up hx1.ln)
  generalize W1.drewN nq = W2 at *
  obtain ⟨f1, f2, f3, f4, f5⟩ := X2.ev
  go_wp2_with (go_at_call 38; refine Calls.mono h38 (fun e w4 hp => ?_); obtain ⟨⟨v, rfl, hv4⟩, b2⟩ := hp; have hx4 := hx2.below b2; have B4' := B2'.trans (b2.up hx2.ln); clear h38 hk1 h37 c2)
  obtain ⟨vh, vn, vo, vr', hb4, q2, q3, q4, q5⟩ := hx4.endr hp he
  have ec4 : EC w4 p _ := ⟨hb4⟩
  have d1 := (ec4.below (drew_below w4 1)).cell 1
  have d5 := (ec4.below (drew_below w4 1)).cell 5
  simp only [List.getElem?_toArray, List.getElem?_cons_succ, List.getElem?_cons_zero] at d1 d5
  have h42 := answ_any (w := w4.drew) (u := e.u) (by omega) (q5.below (drew_below w4 1)) hgr
  have hgA := answ_good (u := e.u) (by omega) hgr
  generalize hR : answO e.u e.r = R at *
  have hdv := hv4.below (drew_below w4 1)
  have lA : ∀ t, (parse xa).1 = some t → t.text.length ≤ 50000 := fun t ht => (hga t ht).len
  have lR : ∀ t, R = some t → t.text.length ≤ 50000 := fun t ht => (hgA t ht).len
  generalize hPa : (parse xa).1 = Pa at *
  subst hta
  go_region_held3 (fun w' => w'.cell? ⟨p, 1, none⟩ = some (.int .i64 (e.u : Nat)) ∧ w'.cell? ⟨p, 5, none⟩ = some vr') (first | exact ⟨d1, d5⟩ | exact ⟨r1, r5⟩ | exact ⟨s1, s5⟩)
    (first
      | (go_at_call 42; refine Calls.mono h42 (fun e w5 hp => ?_); obtain ⟨⟨v5, rfl, hv5⟩, b5⟩ := hp; have r1 := ((ec4.below (drew_below w4 1)).below b5).cell 1; have r5 := ((ec4.below (drew_below w4 1)).below b5).cell 5; simp only [List.getElem?_toArray, List.getElem?_cons_succ, List.getElem?_cons_zero] at r1 r5)
      | (go_at_call 41; refine Calls.mono (same_any (hdv.below b5) hv5 lA lR) (fun e w6 hp => ?_); obtain ⟨rfl, m, rfl⟩ := hp; have s1 := (((ec4.below (drew_below w4 1)).below b5).below (drew_below _ m)).cell 1; have s5 := (((ec4.below (drew_below w4 1)).below b5).below (drew_below _ m)).cell 5; simp only [List.getElem?_toArray, List.getElem?_cons_succ, List.getElem?_cons_zero] at s1 s5)
      | fail)
  have bd : Below w4.heap.size w4 (w5.drewN m) := ((drew_below w4 1).trans b5).trans ((drew_below w5 m).mono ((drew_below w4 1).trans b5).size)
  have hx6 := hx4.below bd
  have B6' := B4'.trans (bd.up hx4.ln)
  clear s1 s5 r1 r5 h42
  generalize w5.drewN m = w6 at *
  have hpp := hp
  generalize hB : sameO (some ta) R = B at *
  have H6 := Lib.hid hB
  clear hB
  cases B with
  | false =>
    have hO := H5.out
    rw [if_neg (by simp)] at hO
    have H7 := Lib.hid hO
    clear hO H5
    obtain ⟨vh7, vn7, vo7, vr7, hb7, z2, z3, z4, z5⟩ := hx6.endr hp he
    have E0 : EC w6 p _ := ⟨hb7⟩
    have E1 := E0.set 0 (by simp) (.int .i64 3)
    have y0 := E0.cell 0
    have x0 := E0.free 0
    simp only [List.getElem?_toArray, List.getElem?_cons_succ, List.getElem?_cons_zero] at y0
    go_wp2
    go_ret
    have hEB : EB w6 p e := ⟨_, _, _, _, hb7, z2, z3, z4, z5⟩
    have kk := set_kb w6 p 0 (.int .i64 3)
    have kt := hEB.kb70 kk
    obtain ⟨r1, r2⟩ := hx6.endR hp hEB kk (e' := { e with st := 3 }) ⟨_, _, _, _, E1.h, z2.mono kt, z3.mono kt, z4.mono kt, z5.mono kt⟩
    have hO := H7.out
    subst hO
    exact ⟨rfl, ⟨_, _, _, _, _, r1⟩, B6'.trans r2⟩
  | true =>
    have hO := H5.out
    rw [if_pos rfl] at hO
    clear H5
    have h43 := binds_any (hx6.endr hp he) oke
    have hgM := binds_good oke
    generalize bindsO e = M at *
    have h36 := fun w7 v7 (hh : WX n0 w7 b kb vs vr ps pr σ) (hv : RO w7 M v7) => say1 hh hv hgM
    cases hs : sayB σ [M] with
    | false =>
      rw [hs, sayS_no hs] at h36
      rw [hs, if_neg (by simp)] at hO
      subst hO
      cases M
      all_goals go_wp2_with (go_at_call 43; refine Calls.mono h43 (fun e w7 hp => ?_); obtain ⟨⟨v7, rfl, hv7⟩, b7⟩ := hp; have h36' := h36 _ _ (hx6.below b7) hv7; first | (obtain ⟨D, u, rfl⟩ := RO.some_shape hv7) | (have hv8 : v7 = .nilIface := hv7; subst hv8))
      all_goals go_wp2_with (go_at_call 36; refine Calls.mono h36' (fun e w8 hp => ?_); obtain ⟨rfl, ⟨kb', hx⟩, k2⟩ := hp)
      all_goals go_ret
      all_goals exact ⟨rfl, ⟨_, _, _, _, _, hx⟩, (B6'.trans (b7.up hx6.ln)).trans ((hx6.below b7).kbq k2)⟩
    | true =>
      rw [hs] at h36 hO
      rw [if_pos rfl] at hO
      obtain ⟨m, rfl⟩ : ∃ m, M = some m := by
        cases M with
        | none => simp [sayB, sayO, hear] at hs
        | some m => exact ⟨m, rfl⟩
      have her : (sayS σ [some m]).r[k]? = some e := by rw [sayS_r]; exact he
      generalize sayS σ [some m] = S at *
      have H8 := Lib.hid hO
      clear hO hs
      go_wp2_with (go_at_call 43; refine Calls.mono h43 (fun e w7 hp => ?_); obtain ⟨⟨v7, rfl, hv7⟩, b7⟩ := hp; have h36' := h36 _ _ (hx6.below b7) hv7; obtain ⟨D, u, rfl⟩ := RO.some_shape hv7)
      go_wp2_with (go_at_call 36; refine Calls.mono h36' (fun e w8 hp => ?_); obtain ⟨rfl, ⟨kb', hx⟩, k2⟩ := hp; obtain ⟨vh7, vn7, vo7, vr7, hb7, z2, z3, z4, z5⟩ := hx.endr hpp her; have E0 : EC w8 p _ := ⟨hb7⟩; have E1 := E0.set 0 (by simp) (.int .i64 2); have y0 := E0.cell 0; have x0 := E0.free 0; simp only [List.getElem?_toArray, List.getElem?_cons_succ, List.getElem?_cons_zero] at y0)
      go_ret
      have hEB : EB w8 p e := ⟨_, _, _, _, hb7, z2, z3, z4, z5⟩
      have kk := set_kb w8 p 0 (.int .i64 2)
      have kt := hEB.kb70 kk
      obtain ⟨r1, r2⟩ := hx.endR hp hEB kk (e' := { e with st := 2 }) ⟨_, _, _, _, E1.h, z2.mono kt, z3.mono kt, z4.mono kt, z5.mono kt⟩
      have hO := H8.out
      subst hO
      exact ⟨rfl, ⟨_, _, _, _, _, r1⟩, ((B6'.trans (b7.up hx6.ln)).trans ((hx6.below b7).kbq k2)).trans r2⟩
end Go.Proofs.YthigfakjiknhcaaDoorT
