/- A session is proved. -/
import Derived.Test.YthigfakjiknhcaaDoorTyd
namespace Go.Proofs.YthigfakjiknhcaaDoorT
open Go Go.Proofs Go.RowKit
set_option linter.unusedSimpArgs false
set_option linter.unusedVariables false
theorem XB.kb {w w' : World} {E b : Nat} {cs : Array Value} (h : XB w E cs) (k : KB b w w') (hne : E ≠ b) : XB w' E cs := k.at h hne
theorem XB.set {w : World} {E p : Nat} {cs : Array Value} (h : XB w E cs) (hne : E ≠ p) (j : Nat) (v : Value) : XB (w.setCell ⟨p, j, none⟩ v) E cs := h.kb (set_kb w p j v) hne
def provesF (σ : St) (x : Ev) : Bool × St :=
  match inO σ.s x.i 0 with
  | none => (false, σ)
  | some k => if userB x.u && knownB σ.ks x.a && knownB σ.ks x.b then
      let e := nth σ.s k
      let a := answO x.u.toNat (parse x.b).1
      if sameO (parse x.b).1 (respO x.u.toNat e.own (parse x.a).1) then
        (if sayB σ [a] then (true, { sayS σ [a] with s := (sayS σ [a]).s.set k { e with st := 1, u := x.u.toNat, r := (parse x.b).1 } }) else (false, σ))
      else (true, { σ with s := σ.s.set k { e with st := 3 } })
    else (false, σ)
set_option maxHeartbeats 8000000 in
set_option maxRecDepth 1000000 in
theorem proves_no {n0 : Nat} {w : World} {b : Nat} {σ : St} (h : WW n0 w b σ) (kd xi xu : Int) (xh xa xb : List UInt8) (la : xa.length ≤ 100000) (lb : xb.length ≤ 100000) (ok : σ.ok) (hbad : inO σ.s xi 0 = none ∨ knownB σ.ks xa = false ∨ knownB σ.ks xb = false ∨ userB xu = false) :
    Calls Tryd.prog 22 #[.pointer (some ⟨b, 0, none⟩), (Ev.mk kd xi xu xh xa xb).val] w (TP n0 w b (false, σ)) := by
  obtain ⟨kb, vs, vr, ps, pr, h⟩ := h
  have hx1 : WX n0 (w.alloc (.cells (Ev.mk kd xi xu xh xa xb).cs 29)) b kb vs vr ps pr σ := h.below (al_below _ _)
  have hb1 : BQ n0 w (w.alloc (.cells (Ev.mk kd xi xu xh xa xb).cs 29)) := (al_below _ _).up h.ln
  have hX1 : XB (w.alloc (.cells (Ev.mk kd xi xu xh xa xb).cs 29)) w.heap.size (Ev.mk kd xi xu xh xa xb).cs := new_blk _ _ _
  have h6 : ps.length ≤ 1000 := by have := ok.ls; have := h.se.1; omega
  simp only [Ev.cs, Ev.val] at *
  have hsp : ∃ y B, B = (inO σ.s xi 0).isSome ∧ ∀ n, Calls Tryd.prog 37 #[vs, .int .i64 xi, .int .i64 0] ((w.alloc (.cells #[.int .i64 kd, .int .i64 xi, .int .i64 xu, str xh, str xa, str xb] 29)).drewN n) fun e w' => e = .returned (.tuple #[.pointer y, .bool B]) ∧ w' = (w.alloc (.cells #[.int .i64 kd, .int .i64 xi, .int .i64 xu, str xh, str xa, str xb] 29)).drewN n := by
    cases ho : inO σ.s xi 0 with
    | none => exact ⟨none, false, rfl, fun n => in_no (hx1.below (drew_below _ n)).s (hx1.below (drew_below _ n)).se h6 ho⟩
    | some k =>
      obtain ⟨e, he, _, _⟩ := inO_some ho
      have hlt := (List.getElem?_eq_some_iff.1 he).1
      exact ⟨_, true, rfl, fun n => in_yes (hx1.below (drew_below _ n)).s (hx1.below (drew_below _ n)).se h6 ho (List.getElem?_eq_getElem (show k < ps.length by have := h.se.1; omega))⟩
  obtain ⟨y, B, hB, h37⟩ := hsp
  have hbad' : B = false ∨ knownB σ.ks xa = false ∨ knownB σ.ks xb = false ∨ userB xu = false := by
    rcases hbad with h1 | h1
    · rw [hB, h1]; exact Or.inl rfl
    · exact Or.inr h1
  clear hB hbad
  have c2 := hx1.cell1
  obtain ⟨e1, e2, e3, e4, e5⟩ := hX1.ev
  have hk1 := fun w1 (hh : WX n0 w1 b kb vs vr ps pr σ) => known_any hh xa la
  have hk2 := fun w1 (hh : WX n0 w1 b kb vs vr ps pr σ) => known_any hh xb lb
  have h26 := user_any xu
  generalize userB xu = BU at *
  generalize knownB σ.ks xa = B2 at *
  generalize knownB σ.ks xb = B3 at *
  cases B <;> cases B2 <;> cases B3 <;> cases BU <;>
  first
  | (exfalso; revert hbad'; simp; done)
  | (go_enter Tryd.func22, Tryd.ntmps22
     go_wp2_with fail
     generalize w.alloc (.cells #[.int .i64 kd, .int .i64 xi, .int .i64 xu, str xh, str xa, str xb] 29) = W1 at *
     go_quiet (first | (go_at_call 37; exact Calls.quiet_of_same (h37 _)))
     have hx2 := hx1.below (drew_below W1 nq)
     have X2 := hX1.below (drew_below W1 nq)
     have h38 := hk1 _ hx2
     have B2' : BQ n0 w (W1.drewN nq) := hb1.trans ((drew_below W1 nq).up hx1.ln)
     generalize W1.drewN nq = W2 at *
     obtain ⟨f1, f2, f3, f4, f5⟩ := X2.ev
     go_wp2_with (go_at_call 38; refine Calls.mono h38 (fun e w1 hp => ?_); obtain ⟨⟨v, rfl, hv⟩, b2⟩ := hp; have hx3 := hx2.below b2; have X3 := X2.below b2; have B3' := B2'.trans (b2.up hx2.ln); obtain ⟨g1, g2, g3, g4, g5⟩ := X3.ev; have h38 := hk2 _ hx3)
     go_wp2_with (first | (go_at_call 38; refine Calls.mono h38 (fun e w2 hp => ?_); obtain ⟨⟨v2, rfl, hv2⟩, b3⟩ := hp; have hx4 := hx3.below b3; have X4 := X3.below b3; have B4' := B3'.trans (b3.up hx3.ln); obtain ⟨i1, i2, i3, i4, i5⟩ := X4.ev) | (go_at_call 26; refine Calls.mono (h26 _) (fun e w3 hp => ?_); obtain ⟨rfl, rfl⟩ := hp) | fail)
     go_ret
     exact ⟨rfl, ⟨_, _, _, _, _, hx4⟩, B4'⟩)
set_option maxHeartbeats 8000000 in
set_option maxRecDepth 1000000 in
theorem proves_yes {n0 : Nat} {w : World} {b : Nat} {σ : St} (h : WW n0 w b σ) (kd xi xu : Int) (xh xa xb : List UInt8) (la : xa.length ≤ 100000) (lb : xb.length ≤ 100000) (ok : σ.ok) {k : Nat} (hk : inO σ.s xi 0 = some k) (hA : knownB σ.ks xa = true) (hB : knownB σ.ks xb = true) (hU : userB xu = true) :
    Calls Tryd.prog 22 #[.pointer (some ⟨b, 0, none⟩), (Ev.mk kd xi xu xh xa xb).val] w (TP n0 w b (provesF σ (Ev.mk kd xi xu xh xa xb))) := by
  obtain ⟨kb, vs, vr, ps, pr, h⟩ := h
  obtain ⟨u, hu, rfl⟩ : ∃ u : Nat, u < 4 ∧ xu = u := by
    simp only [userB, Bool.and_eq_true, decide_eq_true_eq] at hU
    exact ⟨xu.toNat, by omega, by omega⟩
  have h26 := user_any ((u : Nat) : Int)
  rw [hU] at h26
  obtain ⟨e, he, hst, hxi⟩ := inO_some hk
  have hnth := nth_get he
  have hpl : k < ps.length := by have := (List.getElem?_eq_some_iff.1 he).1; have := h.se.1; omega
  have hp := List.getElem?_eq_getElem hpl
  generalize ps[k] = p at hp
  have hx1 : WX n0 (w.alloc (.cells (Ev.mk kd xi ((u : Nat) : Int) xh xa xb).cs 29)) b kb vs vr ps pr σ := h.below (al_below _ _)
  have hb1 : BQ n0 w (w.alloc (.cells (Ev.mk kd xi ((u : Nat) : Int) xh xa xb).cs 29)) := (al_below _ _).up h.ln
  have hX1 : XB (w.alloc (.cells (Ev.mk kd xi ((u : Nat) : Int) xh xa xb).cs 29)) w.heap.size (Ev.mk kd xi ((u : Nat) : Int) xh xa xb).cs := new_blk _ _ _
  have h6 : ps.length ≤ 1000 := by have := ok.ls; have := h.se.1; omega
  have oke := ok.s e (List.mem_of_getElem? he)
  obtain ⟨ta, hta, _⟩ := knownB_some hA
  obtain ⟨tb, htb, _⟩ := knownB_some hB
  have hres : provesF σ (Ev.mk kd xi ((u : Nat) : Int) xh xa xb) = if sameO (parse xb).1 (respO u e.own (parse xa).1) then (if sayB σ [answO u (parse xb).1] then (true, { sayS σ [answO u (parse xb).1] with s := (sayS σ [answO u (parse xb).1]).s.set k { e with st := 1, u := u, r := (parse xb).1 } }) else (false, σ)) else (true, { σ with s := σ.s.set k { e with st := 3 } }) := by
    simp only [provesF, hk, hA, hB, hnth, hU, Int.toNat_natCast, Bool.and_self, if_true]
  generalize provesF σ (Ev.mk kd xi ((u : Nat) : Int) xh xa xb) = O at *
  simp only [Ev.cs, Ev.val] at *
  have h37 : ∀ n, Calls Tryd.prog 37 #[vs, .int .i64 xi, .int .i64 0] ((w.alloc (.cells #[.int .i64 kd, .int .i64 xi, .int .i64 ((u : Nat) : Int), str xh, str xa, str xb] 29)).drewN n) fun e w' => e = .returned (.tuple #[.pointer (some ⟨p, 0, none⟩), .bool true]) ∧ w' = (w.alloc (.cells #[.int .i64 kd, .int .i64 xi, .int .i64 ((u : Nat) : Int), str xh, str xa, str xb] 29)).drewN n :=
    fun n => in_yes (hx1.below (drew_below _ n)).s (hx1.below (drew_below _ n)).se h6 hk hp
  have c2 := hx1.cell1
  obtain ⟨e1, e2, e3, e4, e5⟩ := hX1.ev
  have hk1 := fun w1 (hh : WX n0 w1 b kb vs vr ps pr σ) => known_any hh xa la
  rw [hA] at hk1
  have hk2 := fun w1 (hh : WX n0 w1 b kb vs vr ps pr σ) => known_any hh xb lb
  rw [hB] at hk2
  have hu4 := oke.u
  have hgo := oke.own
  have hgr := oke.r
  have hgn := oke.n
  have hgh := oke.h
  have hga := good_parse xa
  have hgb := good_parse xb
  have H1 := Lib.hid hxi
  have H2 := Lib.hid hst
  have H3 := Lib.hid h6
  have H4 := Lib.hid hpl
  have H5 := Lib.hid hres
  clear hU
  clear hxi hst h6 hpl hres hA hk hB
  go_enter Tryd.func22, Tryd.ntmps22
  go_wp2_with fail
  generalize w.alloc (.cells #[.int .i64 kd, .int .i64 xi, .int .i64 ((u : Nat) : Int), str xh, str xa, str xb] 29) = W1 at *
  go_quiet (first | (go_at_call 37; exact Calls.quiet_of_same (h37 _)))
  have hx2 := hx1.below (drew_below W1 nq)
  have X2 := hX1.below (drew_below W1 nq)
  have h38 := hk1 _ hx2
  have B2' : BQ n0 w (W1.drewN nq) := hb1.trans ((drew_below W1 nq).up hx1.ln)
  generalize W1.drewN nq = W2 at *
  obtain ⟨f1, f2, f3, f4, f5⟩ := X2.ev
  go_wp2_with (go_at_call 38; refine Calls.mono h38 (fun e w3 hp => ?_); obtain ⟨⟨v, rfl, hv⟩, b2⟩ := hp; have hx3 := hx2.below b2; have X3 := X2.below b2; have B3' := B2'.trans (b2.up hx2.ln); obtain ⟨g1, g2, g3, g4, g5⟩ := X3.ev; clear h38; have h38 := hk2 _ hx3)
  go_wp2_with (first | (go_at_call 38; refine Calls.mono h38 (fun e w4 hp => ?_); obtain ⟨⟨v2, rfl, hv2⟩, b3⟩ := hp; have hx4 := hx3.below b3; have X4 := X3.below b3; have B4' := B3'.trans (b3.up hx3.ln); have hv4 := RO.below hv b3; obtain ⟨i1, i2, i3, i4, i5⟩ := X4.ev; clear h38 hk1 hk2 h37 c2) | (go_at_call 26; refine Calls.mono (h26 _) (fun e w4 hp => ?_); obtain ⟨rfl, rfl⟩ := hp) | fail)
  obtain ⟨vh, vn, vo, vr', hb4, q2, q3, q4, q5⟩ := hx4.ends hp he
  have ec4 : EC w4 p _ := ⟨hb4⟩
  have d4 := (ec4.below (drew_below w4 1)).cell 4
  simp only [List.getElem?_toArray, List.getElem?_cons_succ, List.getElem?_cons_zero] at d4
  have X5 := X4.below (drew_below w4 1)
  obtain ⟨_, d2, _⟩ := X5.ev
  have h39 := resp_any (w := w4.drew) (u := u) (by omega) (q4.below (drew_below w4 1)) (hv4.below (drew_below w4 1)) hgo hga
  have hgA := resp_good (u := u) (by omega) hgo hga
  generalize hR : respO u e.own (parse xa).1 = R at *
  have hdv := hv2.below (drew_below w4 1)
  have lA : ∀ t, (parse xb).1 = some t → t.text.length ≤ 50000 := fun t ht => (hgb t ht).len
  have lR : ∀ t, R = some t → t.text.length ≤ 50000 := fun t ht => (hgA t ht).len
  generalize hPb : (parse xb).1 = Pb at *
  subst htb
  generalize hEv : w.heap.size = E at *
  go_region_held3 (fun w' => w'.cell? ⟨E, 2, none⟩ = some (.int .i64 (u : Nat)) ∧ w'.cell? ⟨p, 4, none⟩ = some vo) (first | exact ⟨d2, d4⟩ | exact ⟨r2, r4⟩ | exact ⟨s2, s4⟩)
    (first
      | (go_at_call 39; refine Calls.mono h39 (fun e w5 hp => ?_); obtain ⟨⟨v5, rfl, hv5⟩, b5⟩ := hp; have r4 := ((ec4.below (drew_below w4 1)).below b5).cell 4; obtain ⟨_, r2, _⟩ := (X5.below b5).ev; simp only [List.getElem?_toArray, List.getElem?_cons_succ, List.getElem?_cons_zero] at r4)
      | (go_at_call 41; refine Calls.mono (same_any (hdv.below b5) hv5 lA lR) (fun e w6 hp => ?_); obtain ⟨rfl, m, rfl⟩ := hp; have s4 := (((ec4.below (drew_below w4 1)).below b5).below (drew_below _ m)).cell 4; obtain ⟨_, s2, _⟩ := ((X5.below b5).below (drew_below _ m)).ev; simp only [List.getElem?_toArray, List.getElem?_cons_succ, List.getElem?_cons_zero] at s4)
      | fail)
  have bd : Below w4.heap.size w4 (w5.drewN m) := ((drew_below w4 1).trans b5).trans ((drew_below w5 m).mono ((drew_below w4 1).trans b5).size)
  have hx6 := hx4.below bd
  have X6 := X4.below bd
  have B6' := B4'.trans (bd.up hx4.ln)
  have hv6 := hv2.below bd
  clear s2 s4 r2 r4 h39
  generalize w5.drewN m = w6 at *
  have hpp := hp
  generalize hB : sameO (some tb) R = B at *
  have H6 := Lib.hid hB
  clear hB
  obtain ⟨_, j2, _⟩ := X6.ev
  cases B with
  | false =>
    have hO := H5.out
    rw [if_neg (by simp)] at hO
    have H7 := Lib.hid hO
    clear hO H5
    obtain ⟨vh7, vn7, vo7, vr7, hb7, z2, z3, z4, z5⟩ := hx6.ends hp he
    have E0 : EC w6 p _ := ⟨hb7⟩
    have E1 := E0.set 0 (by simp) (.int .i64 3)
    have y0 := E0.cell 0
    have x0 := E0.free 0
    simp only [List.getElem?_toArray, List.getElem?_cons_succ, List.getElem?_cons_zero] at y0
    go_wp2
    go_ret
    have hEB : EB w6 p e := ⟨_, _, _, _, hb7, z2, z3, z4, z5⟩
    have kk := set_kb w6 p 0 (.int .i64 3)
    have kt := hEB.kb70 kk
    obtain ⟨r1, r2⟩ := hx6.endS hp hEB kk (e' := { e with st := 3 }) ⟨_, _, _, _, E1.h, z2.mono kt, z3.mono kt, z4.mono kt, z5.mono kt⟩
    have hO := H7.out
    subst hO
    exact ⟨rfl, ⟨_, _, _, _, _, r1⟩, B6'.trans r2⟩
  | true =>
    have hO := H5.out
    rw [if_pos rfl] at hO
    clear H5
    have h42 := answ_any (w := w6) (u := u) (by omega) hv6 hgb
    have hgM := answ_good (u := u) (by omega) hgb
    generalize answO u (some tb) = M at *
    have h36 := fun w7 v7 (hh : WX n0 w7 b kb vs vr ps pr σ) (hv : RO w7 M v7) => say1 hh hv hgM
    obtain ⟨Db, ub, rfl⟩ := RO.some_shape hv6
    cases hs : sayB σ [M] with
    | false =>
      rw [hs, sayS_no hs] at h36
      rw [hs, if_neg (by simp)] at hO
      subst hO
      cases M
      all_goals go_wp2_with (go_at_call 42; refine Calls.mono h42 (fun e w7 hp => ?_); obtain ⟨⟨v7, rfl, hv7⟩, b7⟩ := hp; have h36' := h36 _ _ (hx6.below b7) hv7; first | (obtain ⟨D, ud, rfl⟩ := RO.some_shape hv7) | (have hv8 : v7 = .nilIface := hv7; subst hv8))
      all_goals go_wp2_with (go_at_call 36; refine Calls.mono h36' (fun e w8 hp => ?_); obtain ⟨rfl, ⟨kb', hx⟩, k2⟩ := hp)
      all_goals go_ret
      all_goals exact ⟨rfl, ⟨_, _, _, _, _, hx⟩, (B6'.trans (b7.up hx6.ln)).trans ((hx6.below b7).kbq k2)⟩
    | true =>
      rw [hs] at h36 hO
      rw [if_pos rfl] at hO
      obtain ⟨m, rfl⟩ : ∃ m, M = some m := by
        cases M with
        | none => simp [sayB, sayO, hear] at hs
        | some m => exact ⟨m, rfl⟩
      have her : (sayS σ [some m]).s[k]? = some e := by rw [sayS_s]; exact he
      generalize sayS σ [some m] = S at *
      have H8 := Lib.hid hO
      clear hO hs
      go_wp2_with (go_at_call 42; refine Calls.mono h42 (fun e w7 hp => ?_); obtain ⟨⟨v7, rfl, hv7⟩, b7⟩ := hp; have X7 := X6.below b7; have h36' := h36 _ _ (hx6.below b7) hv7; obtain ⟨D, ud, rfl⟩ := RO.some_shape hv7)
      go_wp2_with (go_at_call 36; refine Calls.mono h36' (fun e w8 hp => ?_); obtain ⟨rfl, ⟨kb', hx⟩, k2⟩ := hp)
      obtain ⟨vh7, vn7, vo7, vr7, hb7, z2, z3, z4, z5⟩ := hx.ends hpp her
      have hEb : E ≠ b := by have := h.lt; omega
      have X8 : XB w8 E _ := X7.kb k2 hEb
      have hEp : E ≠ p := fun hh => by
        subst hh
        have := X8
        unfold XB at this
        rw [hb7] at this
        cases this
      have E0 : EC w8.drew p _ := (EC.mk hb7).below (drew_below w8 1)
      have E1 := E0.set 0 (by simp) (.int .i64 1)
      have E2 := E1.set 1 (by simp) (.int .i64 ((u : Nat) : Int))
      have E3 := E2.set 5 (by simp) (.iface Db ub)
      have y0 := E0.cell 0
      have y1 := E1.cell 1
      have y2 := E2.cell 5
      have x0 := E0.free 0
      have x1 := E1.free 1
      have x2 := E2.free 5
      simp only [List.getElem?_toArray, List.getElem?_cons_succ, List.getElem?_cons_zero, List.setIfInBounds_toArray, List.set_cons_zero, List.set_cons_succ] at y0 y1 y2
      have E0' : EC w8 p _ := ⟨hb7⟩
      have E1' := E0'.set 0 (by simp) (.int .i64 1)
      have E2' := E1'.set 1 (by simp) (.int .i64 ((u : Nat) : Int))
      have y0' := E0'.cell 0
      have y1' := E1'.cell 1
      have y2' := E2'.cell 5
      have x0' := E0'.free 0
      have x1' := E1'.free 1
      have x2' := E2'.free 5
      simp only [List.getElem?_toArray, List.getElem?_cons_succ, List.getElem?_cons_zero, List.setIfInBounds_toArray, List.set_cons_zero, List.set_cons_succ] at y0' y1' y2'
      have X9 := X8.below (drew_below w8 1)
      obtain ⟨_, a0, _⟩ := X9.ev
      obtain ⟨_, a1, _⟩ := (X9.set hEp 0 (.int .i64 1)).ev
      obtain ⟨_, a2, _⟩ := ((X9.set hEp 0 (.int .i64 1)).set hEp 1 (.int .i64 ((u : Nat) : Int))).ev
      obtain ⟨_, a3, _⟩ := (((X9.set hEp 0 (.int .i64 1)).set hEp 1 (.int .i64 ((u : Nat) : Int))).set hEp 5 (.iface Db ub)).ev
      go_region_held3 (fun w' => w'.cell? ⟨E, 2, none⟩ = some (.int .i64 (u : Nat))) (first | exact a0 | exact a1 | exact a2 | exact a3)
        (first | fail)
      go_wp2
      go_ret
      have hEB : EB w8 p e := ⟨_, _, _, _, hb7, z2, z3, z4, z5⟩
      have E3' := (E2'.set 5 (by simp) (.iface Db ub)).below (drew_below _ 1)
      have kk := (((set_kb w8 p 0 (.int .i64 1)).trans (set_kb _ p 1 (.int .i64 ((u : Nat) : Int)))).trans (set_kb _ p 5 (.iface Db ub))).trans (KB.of_below (drew_below _ 1))
      have kt := hEB.kb70 kk
      have vb8 := ((hv6.below b7).mono ((hx6.below b7).kt k2)).mono kt
      obtain ⟨r1, r2⟩ := hx.endS hpp hEB kk (e' := { e with st := 1, u := u, r := some tb }) ⟨_, _, _, _, E3'.h, z2.mono kt, z3.mono kt, z4.mono kt, vb8⟩
      have hO := H8.out
      subst hO
      exact ⟨rfl, ⟨_, _, _, _, _, r1⟩, ((B6'.trans (b7.up hx6.ln)).trans ((hx6.below b7).kbq k2)).trans r2⟩
end Go.Proofs.YthigfakjiknhcaaDoorT
