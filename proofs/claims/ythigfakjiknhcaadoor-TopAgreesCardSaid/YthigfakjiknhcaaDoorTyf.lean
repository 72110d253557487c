/- A session is bound. -/
import Derived.Test.YthigfakjiknhcaaDoorTye
namespace Go.Proofs.YthigfakjiknhcaaDoorT
open Go Go.Proofs Go.RowKit
set_option linter.unusedSimpArgs false
set_option linter.unusedVariables false
def bindF (σ : St) (x : Ev) : Bool × St :=
  match inO σ.s x.i 1 with
  | none => (false, σ)
  | some k => if knownB σ.ks x.a then
      let e := nth σ.s k
      match bindsO e with
      | none => (false, σ)
      | some m => (true, { σ with s := σ.s.set k { e with st := if sameO (parse x.a).1 (some m) then 2 else 3 } })
    else (false, σ)
set_option maxHeartbeats 8000000 in
set_option maxRecDepth 1000000 in
theorem bind_no {n0 : Nat} {w : World} {b : Nat} {σ : St} (h : WW n0 w b σ) (kd xi xu : Int) (xh xa xb : List UInt8) (la : xa.length ≤ 100000) (lb : xb.length ≤ 100000) (ok : σ.ok) (hbad : inO σ.s xi 1 = none ∨ knownB σ.ks xa = false) :
    Calls Tryd.prog 23 #[.pointer (some ⟨b, 0, none⟩), (Ev.mk kd xi xu xh xa xb).val] w (TP n0 w b (false, σ)) := by
  obtain ⟨kb, vs, vr, ps, pr, h⟩ := h
  have hx1 : WX n0 (w.alloc (.cells (Ev.mk kd xi xu xh xa xb).cs 29)) b kb vs vr ps pr σ := h.below (al_below _ _)
  have hb1 : BQ n0 w (w.alloc (.cells (Ev.mk kd xi xu xh xa xb).cs 29)) := (al_below _ _).up h.ln
  have hX1 : XB (w.alloc (.cells (Ev.mk kd xi xu xh xa xb).cs 29)) w.heap.size (Ev.mk kd xi xu xh xa xb).cs := new_blk _ _ _
  have h6 : ps.length ≤ 1000 := by have := ok.ls; have := h.se.1; omega
  simp only [Ev.cs, Ev.val] at *
  have hsp : ∃ y B, B = (inO σ.s xi 1).isSome ∧ ∀ n, Calls Tryd.prog 37 #[vs, .int .i64 xi, .int .i64 1] ((w.alloc (.cells #[.int .i64 kd, .int .i64 xi, .int .i64 xu, str xh, str xa, str xb] 29)).drewN n) fun e w' => e = .returned (.tuple #[.pointer y, .bool B]) ∧ w' = (w.alloc (.cells #[.int .i64 kd, .int .i64 xi, .int .i64 xu, str xh, str xa, str xb] 29)).drewN n := by
    cases ho : inO σ.s xi 1 with
    | none => exact ⟨none, false, rfl, fun n => in_no (hx1.below (drew_below _ n)).s (hx1.below (drew_below _ n)).se h6 ho⟩
    | some k =>
      obtain ⟨e, he, _, _⟩ := inO_some ho
      have hlt := (List.getElem?_eq_some_iff.1 he).1
      exact ⟨_, true, rfl, fun n => in_yes (hx1.below (drew_below _ n)).s (hx1.below (drew_below _ n)).se h6 ho (List.getElem?_eq_getElem (show k < ps.length by have := h.se.1; omega))⟩
  obtain ⟨y, B, hB, h37⟩ := hsp
  have hbad' : B = false ∨ knownB σ.ks xa = false := by
    rcases hbad with h1 | h1
    · rw [hB, h1]; exact Or.inl rfl
    · exact Or.inr h1
  clear hB hbad
  have c2 := hx1.cell1
  obtain ⟨e1, e2, e3, e4, e5⟩ := hX1.ev
  have hk1 := fun w1 (hh : WX n0 w1 b kb vs vr ps pr σ) => known_any hh xa la
  generalize knownB σ.ks xa = B2 at *
  cases B <;> cases B2 <;>
  first
  | (exfalso; revert hbad'; simp; done)
  | (go_enter Tryd.func23, Tryd.ntmps23
     go_wp2_with fail
     generalize w.alloc (.cells #[.int .i64 kd, .int .i64 xi, .int .i64 xu, str xh, str xa, str xb] 29) = W1 at *
     go_quiet (first | (go_at_call 37; exact Calls.quiet_of_same (h37 _)))
     have hx2 := hx1.below (drew_below W1 nq)
     have X2 := hX1.below (drew_below W1 nq)
     have h38 := hk1 _ hx2
     have B2' : BQ n0 w (W1.drewN nq) := hb1.trans ((drew_below W1 nq).up hx1.ln)
     generalize W1.drewN nq = W2 at *
     obtain ⟨f1, f2, f3, f4, f5⟩ := X2.ev
     go_wp2_with (go_at_call 38; refine Calls.mono h38 (fun e w1 hp => ?_); obtain ⟨⟨v, rfl, hv⟩, b2⟩ := hp; have hx3 := hx2.below b2; have B3' := B2'.trans (b2.up hx2.ln))
     go_ret
     exact ⟨rfl, ⟨_, _, _, _, _, hx3⟩, B3'⟩)
set_option maxHeartbeats 8000000 in
set_option maxRecDepth 1000000 in
theorem bind_yes {n0 : Nat} {w : World} {b : Nat} {σ : St} (h : WW n0 w b σ) (kd xi xu : Int) (xh xa xb : List UInt8) (la : xa.length ≤ 100000) (lb : xb.length ≤ 100000) (ok : σ.ok) {k : Nat} (hk : inO σ.s xi 1 = some k) (hA : knownB σ.ks xa = true) :
    Calls Tryd.prog 23 #[.pointer (some ⟨b, 0, none⟩), (Ev.mk kd xi xu xh xa xb).val] w (TP n0 w b (bindF σ (Ev.mk kd xi xu xh xa xb))) := by
  obtain ⟨kb, vs, vr, ps, pr, h⟩ := h
  obtain ⟨e, he, hst, hxi⟩ := inO_some hk
  have hnth := nth_get he
  have hpl : k < ps.length := by have := (List.getElem?_eq_some_iff.1 he).1; have := h.se.1; omega
  have hp := List.getElem?_eq_getElem hpl
  generalize ps[k] = p at hp
  have hx1 : WX n0 (w.alloc (.cells (Ev.mk kd xi xu xh xa xb).cs 29)) b kb vs vr ps pr σ := h.below (al_below _ _)
  have hb1 : BQ n0 w (w.alloc (.cells (Ev.mk kd xi xu xh xa xb).cs 29)) := (al_below _ _).up h.ln
  have hX1 : XB (w.alloc (.cells (Ev.mk kd xi xu xh xa xb).cs 29)) w.heap.size (Ev.mk kd xi xu xh xa xb).cs := new_blk _ _ _
  have h6 : ps.length ≤ 1000 := by have := ok.ls; have := h.se.1; omega
  have oke := ok.s e (List.mem_of_getElem? he)
  obtain ⟨ta, hta, _⟩ := knownB_some hA
  have hres : bindF σ (Ev.mk kd xi xu xh xa xb) = match bindsO e with
      | none => (false, σ)
      | some m => (true, { σ with s := σ.s.set k { e with st := if sameO (parse xa).1 (some m) then 2 else 3 } }) := by
    simp only [bindF, hk, hA, hnth, if_true]
  generalize bindF σ (Ev.mk kd xi xu xh xa xb) = O at *
  simp only [Ev.cs, Ev.val] at *
  have h37 : ∀ n, Calls Tryd.prog 37 #[vs, .int .i64 xi, .int .i64 1] ((w.alloc (.cells #[.int .i64 kd, .int .i64 xi, .int .i64 xu, str xh, str xa, str xb] 29)).drewN n) fun e w' => e = .returned (.tuple #[.pointer (some ⟨p, 0, none⟩), .bool true]) ∧ w' = (w.alloc (.cells #[.int .i64 kd, .int .i64 xi, .int .i64 xu, str xh, str xa, str xb] 29)).drewN n :=
    fun n => in_yes (hx1.below (drew_below _ n)).s (hx1.below (drew_below _ n)).se h6 hk hp
  have c2 := hx1.cell1
  obtain ⟨e1, e2, e3, e4, e5⟩ := hX1.ev
  have hk1 := fun w1 (hh : WX n0 w1 b kb vs vr ps pr σ) => known_any hh xa la
  rw [hA] at hk1
  have hu4 := oke.u
  have hgo := oke.own
  have hgr := oke.r
  have hgn := oke.n
  have hgh := oke.h
  have hga := good_parse xa
  have hgb := good_parse xb
  have H1 := Lib.hid hxi
  have H2 := Lib.hid hst
  have H3 := Lib.hid h6
  have H4 := Lib.hid hpl
  have H5 := Lib.hid hres
  clear hxi hst h6 hpl hres hA hk
  go_enter Tryd.func23, Tryd.ntmps23
  go_wp2_with fail
  generalize w.alloc (.cells #[.int .i64 kd, .int .i64 xi, .int .i64 xu, str xh, str xa, str xb] 29) = W1 at *
  go_quiet (first | (go_at_call 37; exact Calls.quiet_of_same (h37 _)))
  have hx2 := hx1.below (drew_below W1 nq)
  have X2 := hX1.below (drew_below W1 nq)
  have h38 := hk1 _ hx2
  have B2' : BQ n0 w (W1.drewN nq) := hb1.trans ((drew_below W1 nq).up hx1.ln)
  generalize W1.drewN nq = W2 at *
  obtain ⟨f1, f2, f3, f4, f5⟩ := X2.ev
  go_wp2_with (go_at_call 38; refine Calls.mono h38 (fun e w4 hp => ?_); obtain ⟨⟨v, rfl, hv4⟩, b2⟩ := hp; have hx4 := hx2.below b2; have B4' := B2'.trans (b2.up hx2.ln); clear h38 hk1 h37 c2)
  have h43 := binds_any (hx4.ends hp he) oke
  have hgM := binds_good oke
  have lA : ∀ t, (parse xa).1 = some t → t.text.length ≤ 50000 := fun t ht => (hga t ht).len
  have lR : ∀ t, bindsO e = some t → t.text.length ≤ 50000 := fun t ht => (hgM t ht).len
  generalize (parse xa).1 = Pa at *
  subst hta
  have hpp := hp
  generalize bindsO e = M at *
  cases M with
  | none =>
    have hO := H5.out
    simp only at hO
    have H7 := Lib.hid hO
    clear hO H5
    go_wp2_with (go_at_call 43; refine Calls.mono h43 (fun e w5 hp => ?_); obtain ⟨⟨v5, rfl, hv5⟩, b5⟩ := hp; have hv6 : v5 = .nilIface := hv5; subst hv6)
    go_ret
    have hO := H7.out
    subst hO
    exact ⟨rfl, ⟨_, _, _, _, _, hx4.below b5⟩, B4'.trans (b5.up hx4.ln)⟩
  | some m =>
    have hO := H5.out
    simp only at hO
    generalize hB : sameO (some ta) (some m) = B at *
    have H7 := Lib.hid hO
    have H8 := Lib.hid hB
    clear hO H5 hB
    go_wp2_with (first | (go_at_call 43; refine Calls.mono h43 (fun e w5 hp => ?_); obtain ⟨⟨v5, rfl, hv5⟩, b5⟩ := hp; have hx5 := hx4.below b5; obtain ⟨vh7, vn7, vo7, vr7, hb7, z2, z3, z4, z5⟩ := hx5.ends hpp he; have E0 : EC w5 p _ := ⟨hb7⟩; have y0 := E0.cell 0; have x0 := E0.free 0; simp only [List.getElem?_toArray, List.getElem?_cons_succ, List.getElem?_cons_zero] at y0; have hq5 := hv4.below b5; obtain ⟨Dq, uq, rfl⟩ := RO.some_shape hv5; have b5' := b5; clear h43 b5) | fail)
    have hEB : EB w5 p e := ⟨_, _, _, _, hb7, z2, z3, z4, z5⟩
    have k1 := set_kb w5 p 0 (.int .i64 3)
    have kt1 := hEB.kb70 k1
    have hs1 := hq5.mono kt1
    have hs2 := RO.mono (t := some m) kt1 hv5
    have E1 := E0.set 0 (by simp) (.int .i64 3)
    have hEB1 : EB (w5.setCell ⟨p, 0, none⟩ (.int .i64 3)) p { e with st := 3 } := ⟨_, _, _, _, E1.h, z2.mono kt1, z3.mono kt1, z4.mono kt1, z5.mono kt1⟩
    obtain ⟨r1, r2⟩ := hx5.endS hpp hEB k1 hEB1
    have B5 := (B4'.trans (b5'.up hx4.ln)).trans r2
    have h41 := same_any hs1 hs2 lA lR
    rw [H8.out] at h41
    generalize w5.setCell ⟨p, 0, none⟩ (.int .i64 3) = w6 at *
    have hO := H7.out
    clear H7 H8 hs1 hs2 kt1 k1
    have her : (σ.s.set k { e with st := 3 })[k]? = some { e with st := 3 } := by
      rw [List.getElem?_set, if_pos rfl, if_pos (List.getElem?_eq_some_iff.1 he).1]
    cases B with
    | false =>
      go_wp2_with (go_at_call 41; refine Calls.mono h41 (fun e w7 hp => ?_); obtain ⟨rfl, n, rfl⟩ := hp)
      go_ret
      subst hO
      exact ⟨rfl, ⟨_, _, _, _, _, r1.below (drew_below _ n)⟩, B5.trans ((drew_below _ n).up r1.ln)⟩
    | true =>
      have H9 := Lib.hid hO
      have H10 := Lib.hid her
      clear hO her
      go_wp2_with (go_at_call 41; refine Calls.mono h41 (fun e w7 hp => ?_); obtain ⟨rfl, n, rfl⟩ := hp; obtain ⟨vh8, vn8, vo8, vr8, hb8, z6, z7, z8, z9⟩ := (r1.below (drew_below _ n)).ends hpp H10.out; have E2 : EC (w6.drewN n) p _ := ⟨hb8⟩; have y2 := E2.cell 0; have x2 := E2.free 0; simp only [List.getElem?_toArray, List.getElem?_cons_succ, List.getElem?_cons_zero] at y2; have E3 := E2.set 0 (by simp) (.int .i64 2); have rn := r1.below (drew_below _ n); have Bn := B5.trans ((drew_below _ n).up r1.ln); generalize w6.drewN n = w8 at *)
      go_ret
      have hEB8 : EB w8 p { e with st := 3 } := ⟨_, _, _, _, hb8, z6, z7, z8, z9⟩
      have k2 := set_kb w8 p 0 (.int .i64 2)
      have kt2 := hEB8.kb70 k2
      obtain ⟨r3, r4⟩ := rn.endS hpp hEB8 k2 (e' := { e with st := 2 }) ⟨_, _, _, _, E3.h, z6.mono kt2, z7.mono kt2, z8.mono kt2, z9.mono kt2⟩
      have hO := H9.out
      subst hO
      simp only [List.set_set] at r3
      exact ⟨rfl, ⟨_, _, _, _, _, r3⟩, Bn.trans r4⟩
end Go.Proofs.YthigfakjiknhcaaDoorT
