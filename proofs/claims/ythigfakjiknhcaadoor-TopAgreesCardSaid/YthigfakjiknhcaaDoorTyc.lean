/- A run is asked, and is not refused. -/
import Derived.Test.YthigfakjiknhcaaDoorTyb
import Derived.Deep.RegionHeld3
namespace Go.Proofs.YthigfakjiknhcaaDoorT
open Go Go.Proofs Go.RowKit
set_option linter.unusedSimpArgs false
set_option linter.unusedVariables false
theorem blk_free {w : World} {p : Nat} {cs : Array Value} (h : w.heap[p]? = some (.cells cs 70 (0, 0))) (j : Nat) : w.frozen? ⟨p, j, none⟩ = false := by
  simp [World.frozen?, h]
theorem blk_set {w : World} {p : Nat} {cs : Array Value} (h : w.heap[p]? = some (.cells cs 70 (0, 0))) (j : Nat) (hj : j < cs.size) (v : Value) : (w.setCell ⟨p, j, none⟩ v).heap[p]? = some (.cells (cs.setIfInBounds j v) 70 (0, 0)) := by
  simp [World.setCell, Array.getElem?_modify, h, hj]
theorem set_kb (w : World) (p j : Nat) (v : Value) : KB p w (w.setCell ⟨p, j, none⟩ v) := ⟨rfl, rfl, rfl, by simp [World.setCell], fun i hi hne => Below.heap_setCell _ _ _ _ hne⟩
/-- one term said -/
theorem say1 {n0 : Nat} {w : World} {b kb : Nat} {vs vr : Value} {ps pr : List Nat} {σ : St} {t : Option Tm} {v : Value} (h : WX n0 w b kb vs vr ps pr σ) (hv : RO w t v) (hg : goodO t) :
    Calls Tryd.prog 36 #[.pointer (some ⟨b, 0, none⟩), .slice (some ⟨w.heap.size, 0, none⟩) 1 1] (w.alloc (.cells #[v] 47)) fun e w' => e = .returned (.bool (sayB σ [t])) ∧ (∃ kb', WX n0 w' b kb' vs vr ps pr (sayS σ [t])) ∧ KB b w w' :=
  (say_any (h.below (al_below _ _)) (RLO_one hv) (fun o ho => by simp at ho; subst ho; exact hg) (by simp) (by simp)).mono fun e w' hp => ⟨hp.1, hp.2.1, (KB.of_below (al_below _ _)).trans hp.2.2⟩
theorem WX.kt {n0 : Nat} {w w' : World} {b kb : Nat} {vs vr : Value} {ps pr : List Nat} {σ : St} (h : WX n0 w b kb vs vr ps pr σ) (k : KB b w w') : KT w w' := k.kt h.blk (by intro h; rcases h with h | h | h <;> cases h)
theorem WX.endr {n0 : Nat} {w : World} {b kb : Nat} {vs vr : Value} {ps pr : List Nat} {σ : St} (h : WX n0 w b kb vs vr ps pr σ) {k p : Nat} {e : EndP} (hp : pr[k]? = some p) (he : σ.r[k]? = some e) : EB w p e := h.re.2 k p e hp he
theorem WX.ends {n0 : Nat} {w : World} {b kb : Nat} {vs vr : Value} {ps pr : List Nat} {σ : St} (h : WX n0 w b kb vs vr ps pr σ) {k p : Nat} {e : EndP} (hp : ps[k]? = some p) (he : σ.s[k]? = some e) : EB w p e := h.se.2 k p e hp he
/-- what an end's cells tell -/
structure EC (w : World) (p : Nat) (cs : Array Value) : Prop where
  h : w.heap[p]? = some (.cells cs 70 (0, 0))
theorem EC.cell {w : World} {p : Nat} {cs : Array Value} (h : EC w p cs) (j : Nat) : w.cell? ⟨p, j, none⟩ = cs[j]? := cell_at h.h j
theorem EC.below {w w' : World} {p : Nat} {cs : Array Value} (h : EC w p cs) (hb : Below w.heap.size w w') : EC w' p cs := ⟨by rw [hb.block p (Array.getElem?_eq_some_iff.1 h.h).1]; exact h.h⟩
theorem EC.set {w : World} {p : Nat} {cs : Array Value} (h : EC w p cs) (j : Nat) (hj : j < cs.size) (v : Value) : EC (w.setCell ⟨p, j, none⟩ v) p (cs.setIfInBounds j v) := ⟨blk_set h.h j hj v⟩
theorem EC.free {w : World} {p : Nat} {cs : Array Value} (h : EC w p cs) (j : Nat) : w.frozen? ⟨p, j, none⟩ = false := blk_free h.h j
theorem RO.some_shape {w : World} {t : Tm} {v : Value} (h : RO w (some t) v) : ∃ D u, v = .iface D u := RT.shape h
set_option maxHeartbeats 8000000 in
set_option maxRecDepth 1000000 in
theorem asks_yes {n0 : Nat} {w : World} {b : Nat} {σ : St} (h : WW n0 w b σ) (kd xi xu : Int) (xh xa xb : List UInt8) (la : xa.length ≤ 100000) (lb : xb.length ≤ 100000) (ok : σ.ok) {k : Nat} (hk : inO σ.r xi 0 = some k) (hA : knownB σ.ks xa = true) (hB : knownB σ.ks xb = true) :
    Calls Tryd.prog 20 #[.pointer (some ⟨b, 0, none⟩), (Ev.mk kd xi xu xh xa xb).val] w (TP n0 w b (asksF σ (Ev.mk kd xi xu xh xa xb))) := by
  obtain ⟨kb, vs, vr, ps, pr, h⟩ := h
  obtain ⟨e, he, hst, hxi⟩ := inO_some hk
  have hnth := nth_get he
  have hpl : k < pr.length := by have := (List.getElem?_eq_some_iff.1 he).1; have := h.re.1; omega
  have hp := List.getElem?_eq_getElem hpl
  generalize pr[k] = p at hp
  have hx1 : WX n0 (w.alloc (.cells (Ev.mk kd xi xu xh xa xb).cs 29)) b kb vs vr ps pr σ := h.below (al_below _ _)
  have hb1 : BQ n0 w (w.alloc (.cells (Ev.mk kd xi xu xh xa xb).cs 29)) := (al_below _ _).up h.ln
  have hX1 : XB (w.alloc (.cells (Ev.mk kd xi xu xh xa xb).cs 29)) w.heap.size (Ev.mk kd xi xu xh xa xb).cs := new_blk _ _ _
  have h6 : pr.length ≤ 1000 := by have := ok.lr; have := h.re.1; omega
  have oke := ok.r e (List.mem_of_getElem? he)
  obtain ⟨ta, hta, _⟩ := knownB_some hA
  have hgr : goodO (respO e.u (parse xb).1 e.own) := resp_good (by have := oke.u; omega) (good_parse xb) oke.own
  have hgp : goodO (mkP e.own (respO e.u (parse xb).1 e.own)) := good_P oke.own hgr
  have hres : asksF σ (Ev.mk kd xi xu xh xa xb) = if sayB σ [mkP e.own (respO e.u (parse xb).1 e.own)] then (true, { sayS σ [mkP e.own (respO e.u (parse xb).1 e.own)] with r := (sayS σ [mkP e.own (respO e.u (parse xb).1 e.own)]).r.set k { e with st := 1, n := (parse xa).1, r := respO e.u (parse xb).1 e.own } }) else (false, σ) := by
    simp only [asksF, hk, hA, hB, hnth, Bool.and_self, if_true]
  generalize asksF σ (Ev.mk kd xi xu xh xa xb) = O at *
  simp only [Ev.cs, Ev.val] at *
  have h37 : ∀ n, Calls Tryd.prog 37 #[vr, .int .i64 xi, .int .i64 0] ((w.alloc (.cells #[.int .i64 kd, .int .i64 xi, .int .i64 xu, str xh, str xa, str xb] 29)).drewN n) fun e w' => e = .returned (.tuple #[.pointer (some ⟨p, 0, none⟩), .bool true]) ∧ w' = (w.alloc (.cells #[.int .i64 kd, .int .i64 xi, .int .i64 xu, str xh, str xa, str xb] 29)).drewN n :=
    fun n => in_yes (hx1.below (drew_below _ n)).r (hx1.below (drew_below _ n)).re h6 hk hp
  have c2 := hx1.cell2
  obtain ⟨e1, e2, e3, e4, e5⟩ := hX1.ev
  have hk1 := fun w1 (hh : WX n0 w1 b kb vs vr ps pr σ) => known_any hh xa la
  have hk2 := fun w1 (hh : WX n0 w1 b kb vs vr ps pr σ) => known_any hh xb lb
  rw [hA] at hk1
  rw [hB] at hk2
  have hu4 := oke.u
  have hoo := oke.own
  have hgb := good_parse xb
  have H1 := Lib.hid hxi
  have H2 := Lib.hid hst
  have H3 := Lib.hid h6
  have H4 := Lib.hid hpl
  have H5 := Lib.hid hres
  generalize hR : respO e.u (parse xb).1 e.own = R at *
  have H6 := Lib.hid hR
  clear hxi hst h6 hpl hres hA hB hk hR
  go_enter Tryd.func20, Tryd.ntmps20
  go_wp2_with fail
  generalize w.alloc (.cells #[.int .i64 kd, .int .i64 xi, .int .i64 xu, str xh, str xa, str xb] 29) = W1 at *
  go_quiet (first | (go_at_call 37; exact Calls.quiet_of_same (h37 _)))
  have hx2 := hx1.below (drew_below W1 nq)
  have X2 := hX1.below (drew_below W1 nq)
  have h38 := hk1 _ hx2
  have B2' : BQ n0 w (W1.drewN nq) := hb1.trans ((drew_below W1 nq).up hx1.ln)
  generalize W1.drewN nq = W2 at *
  obtain ⟨f1, f2, f3, f4, f5⟩ := X2.ev
  go_wp2_with (go_at_call 38; refine Calls.mono h38 (fun e w3 hp => ?_); obtain ⟨⟨v, rfl, hv⟩, b2⟩ := hp; have hx3 := hx2.below b2; have X3 := X2.below b2; have B3' := B2'.trans (b2.up hx2.ln); obtain ⟨g1, g2, g3, g4, g5⟩ := X3.ev; clear h38; have h38 := hk2 _ hx3)
  go_wp2_with (go_at_call 38; refine Calls.mono h38 (fun e w4 hp => ?_); obtain ⟨⟨v2, rfl, hv2⟩, b3⟩ := hp; have hx4 := hx3.below b3; have B4' := B3'.trans (b3.up hx3.ln); have hv4 := RO.below hv b3; clear h38 hk1 hk2 h37 c2)
  obtain ⟨vh, vn, vo, vr', hb4, q2, q3, q4, q5⟩ := hx4.endr hp he
  have ec4 : EC w4 p _ := ⟨hb4⟩
  have d1 := (ec4.below (drew_below w4 1)).cell 1
  have d4 := (ec4.below (drew_below w4 1)).cell 4
  simp only [List.getElem?_toArray, List.getElem?_cons_succ, List.getElem?_cons_zero] at d1 d4
  have h39 := resp_any (w := w4.drew) (u := e.u) (by omega) (hv2.below (drew_below w4 1)) (q4.below (drew_below w4 1)) hgb hoo
  rw [H6.out] at h39
  go_region_held3 (fun w' => w'.cell? ⟨p, 1, none⟩ = some (.int .i64 (e.u : Nat)) ∧ w'.cell? ⟨p, 4, none⟩ = some vo) (first | exact ⟨d1, d4⟩ | exact ⟨r1, r4⟩)
    (first
      | (go_at_call 39; refine Calls.mono h39 (fun e w5 hp => ?_); obtain ⟨⟨v5, rfl, hv5⟩, b5⟩ := hp; have r1 := ((ec4.below (drew_below w4 1)).below b5).cell 1; have r4 := ((ec4.below (drew_below w4 1)).below b5).cell 4; simp only [List.getElem?_toArray, List.getElem?_cons_succ, List.getElem?_cons_zero] at r1 r4)
      | fail)
  have bd : Below w4.heap.size w4 w5 := (drew_below w4 1).trans b5
  have hx5 := hx4.below bd
  have B5' := B4'.trans (bd.up hx4.ln)
  have va5 := hv4.below bd
  have q45 := q4.below bd
  have h40 := spair_any q45 hv5 hoo.okO hgr.okO
  have h36 := fun w6 v6 (hh : WX n0 w6 b kb vs vr ps pr σ) (hv : RO w6 (mkP e.own R) v6) => say1 hh hv hgp
  generalize hM : mkP e.own R = M at *
  have H7 := Lib.hid hM
  clear hM
  cases hs : sayB σ [M] with
  | false =>
    rw [hs, sayS_no hs] at h36
    rw [hs] at H5
    have hO : O = (false, σ) := H5.out
    clear H5
    subst hO
    cases M
    all_goals go_wp2_with (go_at_call 40; refine Calls.mono h40 (fun e w6 hp => ?_); obtain ⟨⟨v6, rfl, hv6⟩, b6⟩ := hp; have h36' := h36 _ _ (hx5.below b6) hv6; first | (obtain ⟨D, u, rfl⟩ := RO.some_shape hv6) | (have hv7 : v6 = .nilIface := hv6; subst hv7))
    all_goals go_wp2_with (go_at_call 36; refine Calls.mono h36' (fun e w7 hp => ?_); obtain ⟨rfl, ⟨kb', hx⟩, k2⟩ := hp)
    all_goals go_ret
    all_goals exact ⟨rfl, ⟨_, _, _, _, _, hx⟩, (B5'.trans (b6.up hx5.ln)).trans ((hx5.below b6).kbq k2)⟩
  | true =>
    rw [hs] at h36 H5
    have hO := H5.out
    rw [if_pos rfl] at hO
    clear H5
    obtain ⟨m, rfl⟩ : ∃ m, M = some m := by
      cases M with
      | none => simp [sayB, sayO, hear] at hs
      | some m => exact ⟨m, rfl⟩
    obtain ⟨D1, u1, rfl⟩ : ∃ D1 u1, v = .iface D1 u1 := by rw [hta] at va5; exact RO.some_shape va5
    obtain ⟨D2, u2, rfl⟩ : ∃ D2 u2, v5 = .iface D2 u2 := by
      have := H7.out
      cases R with
      | none => cases hz : e.own <;> rw [hz] at this <;> simp [mkP] at this
      | some r => exact RO.some_shape hv5
    have her : (sayS σ [some m]).r[k]? = some e := by rw [sayS_r]; exact he
    have hser : (sayS σ [some m]).s = σ.s := sayS_s _ _
    generalize sayS σ [some m] = S at *
    have H8 := Lib.hid hO
    clear hO hs
    go_wp2_with (go_at_call 40; refine Calls.mono h40 (fun e w6 hp => ?_); obtain ⟨⟨v6, rfl, hv6⟩, b6⟩ := hp; have h36' := h36 _ _ (hx5.below b6) hv6; obtain ⟨D, u, rfl⟩ := RO.some_shape hv6)
    go_wp2_with (go_at_call 36; refine Calls.mono h36' (fun e w7 hp => ?_); obtain ⟨rfl, ⟨kb', hx⟩, k2⟩ := hp; obtain ⟨vh7, vn7, vo7, vr7, hb7, z2, z3, z4, z5⟩ := hx.endr hp her; have E0 : EC w7 p _ := ⟨hb7⟩; have E1 := E0.set 0 (by simp) (.int .i64 1); have E2 := E1.set 3 (by simp) (.iface D1 u1); have E3 := E2.set 5 (by simp) (.iface D2 u2); have y0 := E0.cell 0; have y1 := E1.cell 3; have y2 := E2.cell 5; have x0 := E0.free 0; have x1 := E1.free 3; have x2 := E2.free 5; simp only [List.getElem?_toArray, List.getElem?_cons_succ, List.getElem?_cons_zero, List.setIfInBounds_toArray, List.set_cons_zero, List.set_cons_succ] at y0 y1 y2)
    go_ret
    have hEB : EB w7 p e := ⟨_, _, _, _, hb7, z2, z3, z4, z5⟩
    have kk := ((set_kb w7 p 0 (.int .i64 1)).trans (set_kb _ p 3 (.iface D1 u1))).trans (set_kb _ p 5 (.iface D2 u2))
    have kt := hEB.kb70 kk
    have k67 := (hx5.below b6).kt k2
    have hEB' := fun W' (hW : EC W' p #[.int .i64 1, .int .i64 (e.u : Nat), vh7, .iface D1 u1, vo7, .iface D2 u2]) (kt : KT w7 W') => (⟨_, _, _, _, hW.h, z2.mono kt, ((va5.below b6).mono k67).mono kt, z4.mono kt, ((hv5.below b6).mono k67).mono kt⟩ : EB W' p ⟨1, e.u, e.h, (parse xa).1, e.own, R⟩)
    obtain ⟨r1, r2⟩ := hx.endR hp hEB kk (hEB' _ E3 kt)
    have hO := H8.out
    subst hO
    exact ⟨rfl, ⟨_, _, _, _, _, r1⟩, ((B5'.trans (b6.up hx5.ln)).trans ((hx5.below b6).kbq k2)).trans r2⟩
end Go.Proofs.YthigfakjiknhcaaDoorT
