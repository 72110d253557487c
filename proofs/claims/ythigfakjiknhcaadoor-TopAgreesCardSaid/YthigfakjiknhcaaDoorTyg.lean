/- A session begins. -/
import Derived.Test.YthigfakjiknhcaaDoorTyf
import Derived.OwnWalk
namespace Go.Proofs.YthigfakjiknhcaaDoorT
open Go Go.Proofs Go.RowKit
set_option linter.unusedSimpArgs false
set_option linter.unusedVariables false
def servesT (σ : St) (x : Ev) : List (Option Tm) := [some (atT 110 σ.s.length), some (atT 99 σ.s.length), mkA x.h]
def servesF (σ : St) (x : Ev) : Bool × St :=
  if σ.s.length = 6 ∨ certB x.h = false then (false, σ)
  else if sayB σ (servesT σ x) then (true, { sayS σ (servesT σ x) with s := (sayS σ (servesT σ x)).s ++ [⟨0, 0, mkA x.h, some (atT 110 σ.s.length), some (atT 99 σ.s.length), none⟩] })
  else (false, σ)
theorem RLO3 {w : World} {a b c : Tm} {x y z : Value} (ha : RT w a x) (hb : RT w b y) (hc : RT w c z) : RLO (w.alloc (.cells #[x, y, z] 47)) [some a, some b, some c] w.heap.size := fun j t hj => by
  match j, hj with
  | 0, hj => cases hj; exact ⟨x, by rw [new_cell]; rfl, ha.alloc _⟩
  | 1, hj => cases hj; exact ⟨y, by rw [new_cell]; rfl, hb.alloc _⟩
  | 2, hj => cases hj; exact ⟨z, by rw [new_cell]; rfl, hc.alloc _⟩
theorem say3 {n0 : Nat} {w : World} {b kb : Nat} {vs vr : Value} {ps pr : List Nat} {σ : St} {t1 t2 t3 : Tm} {v1 v2 v3 : Value} (h : WX n0 w b kb vs vr ps pr σ) (h1 : RT w t1 v1) (h2 : RT w t2 v2) (h3 : RT w t3 v3) (g1 : good t1) (g2 : good t2) (g3 : good t3) :
    Calls Tryd.prog 36 #[.pointer (some ⟨b, 0, none⟩), .slice (some ⟨w.heap.size, 0, none⟩) 3 3] (w.alloc (.cells #[v1, v2, v3] 47)) fun e w' => e = .returned (.bool (sayB σ [some t1, some t2, some t3])) ∧ (∃ kb', WX n0 w' b kb' vs vr ps pr (sayS σ [some t1, some t2, some t3])) ∧ KB b (w.alloc (.cells #[v1, v2, v3] 47)) w' :=
  say_any (h.below (al_below _ _)) (RLO3 h1 h2 h3) (fun o ho t ht => by
    simp only [List.mem_cons, List.not_mem_nil, or_false] at ho
    rcases ho with rfl | rfl | rfl <;> cases ht <;> assumption) (by simp) (by simp)
set_option maxHeartbeats 8000000 in
set_option maxRecDepth 1000000 in
theorem serves_bad {n0 : Nat} {w : World} {b : Nat} {σ : St} (h : WW n0 w b σ) (kd xi xu : Int) (xh xa xb : List UInt8) (lh : xh.length ≤ 100000) (h6 : σ.s.length ≤ 6) (hbad : σ.s.length = 6 ∨ certB xh = false) : Calls Tryd.prog 18 #[.pointer (some ⟨b, 0, none⟩), (Ev.mk kd xi xu xh xa xb).val] w (TP n0 w b (false, σ)) := by
  obtain ⟨kb, vs, vr, ps, pr, h⟩ := h
  have h34 := cert_any xh lh (w.alloc (.cells (Ev.mk kd xi xu xh xa xb).cs 29))
  have hx1 : WX n0 (w.alloc (.cells (Ev.mk kd xi xu xh xa xb).cs 29)) b kb vs vr ps pr σ := h.below (al_below _ _)
  have hb1 : BQ n0 w (w.alloc (.cells (Ev.mk kd xi xu xh xa xb).cs 29)) := (al_below _ _).up h.ln
  have hX1 : XB (w.alloc (.cells (Ev.mk kd xi xu xh xa xb).cs 29)) w.heap.size (Ev.mk kd xi xu xh xa xb).cs := new_blk _ _ _
  simp only [Ev.cs, Ev.val] at *
  have c1 := hx1.cell1
  obtain ⟨e1, e2, e3, e4, e5⟩ := hX1.ev
  obtain ⟨A, cap, hvs⟩ := hx1.s.shape
  subst hvs
  have hel := hx1.se.1
  have hl6 : ps.length ≤ 6 := by omega
  have h35 : ∀ (c : UInt8), nmB 0 c = true → ∀ w, Calls Tryd.prog 35 #[str [c], .int .i64 (ps.length : Nat)] w fun e w' => e = .returned (.iface 62 (str [c, dg ps.length])) ∧ w' = w := fun c hc w => (atom35_any c ps.length hc (by omega) w).mono fun e w' hp => by
    obtain ⟨⟨v, rfl, hv⟩, rfl⟩ := hp
    rw [RT_atom (s := [c, dg ps.length]) hv]
    exact ⟨rfl, rfl⟩
  have h35n : ∀ w, Calls Tryd.prog 35 #[.string ⟨#[110]⟩, .int .i64 (ps.length : Nat)] w fun e w' => e = .returned (.iface 62 (str [110, dg ps.length])) ∧ w' = w := h35 110 (by decide)
  have h35c : ∀ w, Calls Tryd.prog 35 #[.string ⟨#[99]⟩, .int .i64 (ps.length : Nat)] w fun e w' => e = .returned (.iface 62 (str [99, dg ps.length])) ∧ w' = w := h35 99 (by decide)
  generalize [110, dg ps.length] = S1 at *
  generalize [99, dg ps.length] = S2 at *
  have hd : ((((ps.length : Nat) : Int) == 6) = true ∧ ps.length = 6) ∨ ((((ps.length : Nat) : Int) == 6) = false ∧ certB xh = false) := by
    by_cases hL : ps.length = 6
    · exact Or.inl ⟨by rw [hL]; rfl, hL⟩
    · exact Or.inr ⟨by rw [beq_eq_false_iff_ne]; omega, by rcases hbad with h | h; omega; exact h⟩
  rw [← hel] at hbad
  have H1 := Lib.hid hel
  have H2 := Lib.hid hl6
  clear hbad hel hl6 h6
  clear h35
  generalize certB xh = C at *
  rcases hd with ⟨hb, hL⟩ | ⟨hb, rfl⟩
  · have H3 := Lib.hid hL
    clear hL
    go_enter Tryd.func18, Tryd.ntmps18
    go_wp2_with (first | (go_at_call 34; generalize w.alloc (.cells #[.int .i64 kd, .int .i64 xi, .int .i64 xu, str xh, str xa, str xb] 29) = W1 at *; refine Calls.mono h34 (fun e w1 hp => ?_); obtain ⟨⟨v, rfl, hv⟩, rfl⟩ := hp; clear h34; have hb2 := hb1.trans ((al_below w1 (.cells #[.int .i64 0, .int .i64 0, v, .iface 62 (str S1), .iface 62 (str S2), .nilIface] 70)).up hx1.ln); have hx2 := hx1.below (al_below _ (.cells #[.int .i64 0, .int .i64 0, v, .iface 62 (str S1), .iface 62 (str S2), .nilIface] 70)); rcases hv.shape with ⟨D, u, rfl⟩ | rfl) | fail)
    all_goals go_wp2_with (first | (go_at_call_of 35 (Value.string ⟨#[110]⟩); refine Calls.mono (h35n _) (fun e w1 hp => ?_); obtain ⟨rfl, rfl⟩ := hp) | (go_at_call_of 35 (Value.string ⟨#[99]⟩); refine Calls.mono (h35c _) (fun e w1 hp => ?_); obtain ⟨rfl, rfl⟩ := hp) | fail)
    all_goals go_quiet (fail)
    all_goals go_wp2
    all_goals go_ret
    all_goals exact ⟨rfl, ⟨_, _, _, _, _, hx2.below (drew_below _ _)⟩, hb2.trans ((drew_below _ _).up hx2.ln)⟩
  · go_enter Tryd.func18, Tryd.ntmps18
    go_wp2_with (first | (go_at_call 34; generalize w.alloc (.cells #[.int .i64 kd, .int .i64 xi, .int .i64 xu, str xh, str xa, str xb] 29) = W1 at *; refine Calls.mono h34 (fun e w1 hp => ?_); obtain ⟨⟨v, rfl, hv⟩, rfl⟩ := hp; clear h34; have hb2 := hb1.trans ((al_below w1 (.cells #[.int .i64 0, .int .i64 0, v, .iface 62 (str S1), .iface 62 (str S2), .nilIface] 70)).up hx1.ln); have hx2 := hx1.below (al_below _ (.cells #[.int .i64 0, .int .i64 0, v, .iface 62 (str S1), .iface 62 (str S2), .nilIface] 70)); rcases hv.shape with ⟨D, u, rfl⟩ | rfl) | fail)
    all_goals go_wp2_with (first | (go_at_call_of 35 (Value.string ⟨#[110]⟩); refine Calls.mono (h35n _) (fun e w1 hp => ?_); obtain ⟨rfl, rfl⟩ := hp) | (go_at_call_of 35 (Value.string ⟨#[99]⟩); refine Calls.mono (h35c _) (fun e w1 hp => ?_); obtain ⟨rfl, rfl⟩ := hp) | fail)
    all_goals go_quiet (fail)
    all_goals go_wp2
    all_goals go_ret
    all_goals exact ⟨rfl, ⟨_, _, _, _, _, hx2.below (drew_below _ _)⟩, hb2.trans ((drew_below _ _).up hx2.ln)⟩
theorem EC.kb {w w' : World} {p b : Nat} {cs : Array Value} (h : EC w p cs) (k : KB b w w') (hne : p ≠ b) : EC w' p cs := ⟨k.at h.h hne⟩
set_option maxHeartbeats 8000000 in
set_option maxRecDepth 1000000 in
theorem serves_good {n0 : Nat} {w : World} {b : Nat} {σ : St} (h : WW n0 w b σ) (kd xi xu : Int) (xh xa xb : List UInt8) (lh : xh.length ≤ 100000) (h6 : σ.s.length < 6) (hC : certB xh = true) : Calls Tryd.prog 18 #[.pointer (some ⟨b, 0, none⟩), (Ev.mk kd xi xu xh xa xb).val] w (TP n0 w b (servesF σ (Ev.mk kd xi xu xh xa xb))) := by
  obtain ⟨kb, vs, vr, ps, pr, h⟩ := h
  have h34 := cert_any xh lh (w.alloc (.cells (Ev.mk kd xi xu xh xa xb).cs 29))
  have hx1 : WX n0 (w.alloc (.cells (Ev.mk kd xi xu xh xa xb).cs 29)) b kb vs vr ps pr σ := h.below (al_below _ _)
  have hb1 : BQ n0 w (w.alloc (.cells (Ev.mk kd xi xu xh xa xb).cs 29)) := (al_below _ _).up h.ln
  have hX1 : XB (w.alloc (.cells (Ev.mk kd xi xu xh xa xb).cs 29)) w.heap.size (Ev.mk kd xi xu xh xa xb).cs := new_blk _ _ _
  have hAB : atB xh = true := by unfold certB at hC; rw [Bool.and_eq_true] at hC; exact hC.1
  have hmk : mkA xh = some (.atom xh) := by unfold mkA; rw [hAB]; rfl
  have hgh : good (.atom xh) := good_atom hAB
  have hel := hx1.se.1
  have hres : servesF σ (Ev.mk kd xi xu xh xa xb) = if sayB σ [some (atT 110 ps.length), some (atT 99 ps.length), some (.atom xh)] then (true, { sayS σ [some (atT 110 ps.length), some (atT 99 ps.length), some (.atom xh)] with s := (sayS σ [some (atT 110 ps.length), some (atT 99 ps.length), some (.atom xh)]).s ++ [⟨0, 0, some (.atom xh), some (atT 110 ps.length), some (atT 99 ps.length), none⟩] }) else (false, σ) := by
    unfold servesF servesT
    rw [if_neg (by simp only [hC]; simp; omega)]
    simp only [hmk, hel]
  generalize servesF σ (Ev.mk kd xi xu xh xa xb) = O at *
  have H5 := Lib.hid hres
  clear hres
  simp only [Ev.cs, Ev.val] at *
  rw [hC, hmk] at h34
  have c1 := hx1.cell1
  obtain ⟨e1, e2, e3, e4, e5⟩ := hX1.ev
  obtain ⟨A, cap, hvs⟩ := hx1.s.shape
  subst hvs
  have hl6 : ps.length ≤ 6 := by omega
  have g1 : good (atT 110 ps.length) := atT_good 110 ps.length rfl (by omega)
  have g2 : good (atT 99 ps.length) := atT_good 99 ps.length rfl (by omega)
  have t1 : atT 110 ps.length = .atom [110, dg ps.length] := rfl
  have t2 : atT 99 ps.length = .atom [99, dg ps.length] := rfl
  rw [t1, t2] at H5
  rw [t1] at g1
  rw [t2] at g2
  clear t1 t2
  have h35 : ∀ (c : UInt8), nmB 0 c = true → ∀ w, Calls Tryd.prog 35 #[str [c], .int .i64 (ps.length : Nat)] w fun e w' => e = .returned (.iface 62 (str [c, dg ps.length])) ∧ w' = w := fun c hc w => (atom35_any c ps.length hc (by omega) w).mono fun e w' hp => by
    obtain ⟨⟨v, rfl, hv⟩, rfl⟩ := hp
    rw [RT_atom (s := [c, dg ps.length]) hv]
    exact ⟨rfl, rfl⟩
  have h35n : ∀ w, Calls Tryd.prog 35 #[.string ⟨#[110]⟩, .int .i64 (ps.length : Nat)] w fun e w' => e = .returned (.iface 62 (str [110, dg ps.length])) ∧ w' = w := h35 110 (by decide)
  have h35c : ∀ w, Calls Tryd.prog 35 #[.string ⟨#[99]⟩, .int .i64 (ps.length : Nat)] w fun e w' => e = .returned (.iface 62 (str [99, dg ps.length])) ∧ w' = w := h35 99 (by decide)
  generalize [110, dg ps.length] = S1 at *
  generalize [99, dg ps.length] = S2 at *
  have hb : (((ps.length : Nat) : Int) == 6) = false := by rw [beq_eq_false_iff_ne]; omega
  have hEb : w.heap.size ≠ b := by have := h.lt; omega
  obtain ⟨i0, hi0, hz0, hz1, hz2⟩ := info_parts info67
  have H1 := Lib.hid hel
  have H2 := Lib.hid hl6
  clear hel hl6 h6 h35 hC hmk hAB
  go_enter Tryd.func18, Tryd.ntmps18
  go_wp2_with (first | (go_at_call 34; generalize w.alloc (.cells #[.int .i64 kd, .int .i64 xi, .int .i64 xu, str xh, str xa, str xb] 29) = W1 at *; refine Calls.mono h34 (fun e w1 hp => ?_); obtain ⟨⟨v, rfl, hv⟩, rfl⟩ := hp; clear h34; have hv' := RT_atom hv; subst hv'; clear hv) | fail)
  go_wp2_with (first | (go_at_call_of 35 (Value.string ⟨#[110]⟩); refine Calls.mono (h35n _) (fun e w1 hp => ?_); obtain ⟨rfl, rfl⟩ := hp) | (go_at_call_of 35 (Value.string ⟨#[99]⟩); refine Calls.mono (h35c _) (fun e w1 hp => ?_); obtain ⟨rfl, rfl⟩ := hp) | fail)
  have n1 := hx1.ln
  have hx2 := hx1.below (al_below w1 (.cells #[.int .i64 0, .int .i64 0, .iface 62 (str xh), .iface 62 (str S1), .iface 62 (str S2), .nilIface] 70))
  have B2 := hb1.trans ((al_below w1 (.cells #[.int .i64 0, .int .i64 0, .iface 62 (str xh), .iface 62 (str S1), .iface 62 (str S2), .nilIface] 70)).up hx1.ln)
  have E2 : EC (w1.alloc (.cells #[.int .i64 0, .int .i64 0, .iface 62 (str xh), .iface 62 (str S1), .iface 62 (str S2), .nilIface] 70)) w1.heap.size _ := ⟨new_blk w1 _ 70⟩
  have hq := hx1.fresh (Nat.le_refl _)
  have hpb : w1.heap.size ≠ b := by have := hx1.lt; omega
  have hpl : w1.heap.size < (w1.alloc (.cells #[.int .i64 0, .int .i64 0, .iface 62 (str xh), .iface 62 (str S1), .iface 62 (str S2), .nilIface] 70)).heap.size := by simp
  clear hX1 e1 e2 e3 e4 e5 c1 hx1 h35n h35c hb1
  generalize w1.alloc (.cells #[.int .i64 0, .int .i64 0, .iface 62 (str xh), .iface 62 (str S1), .iface 62 (str S2), .nilIface] 70) = W2 at *
  generalize w1.heap.size = p at *
  have D2 := E2.below (drew_below W2 1)
  have x3 := hx2.below (drew_below W2 1)
  have B3 := B2.trans ((drew_below W2 1).up hx2.ln)
  have a3 := D2.cell 3
  have a4 := D2.cell 4
  have b3 := fun o => (D2.below (al_below (W2.drewN 1) o)).cell 3
  have b4 := fun o => (D2.below (al_below (W2.drewN 1) o)).cell 4
  have h36 := say3 (σ := σ) x3 (RT.atom S1) (RT.atom S2) (RT.atom xh) g1 g2 hgh
  have B4 := B3.trans ((al_below (W2.drewN 1) (.cells #[.iface 62 (str S1), .iface 62 (str S2), .iface 62 (str xh)] 47)).up x3.ln)
  have D3 := D2.below (al_below (W2.drewN 1) (.cells #[.iface 62 (str S1), .iface 62 (str S2), .iface 62 (str xh)] 47))
  have n3 : n0 ≤ ((W2.drewN 1).alloc (.cells #[.iface 62 (str S1), .iface 62 (str S2), .iface 62 (str xh)] 47)).heap.size := Nat.le_trans h.ln (Nat.le_trans (Nat.le_refl _) (by have := B4.size; omega))
  generalize hT : [some (Tm.atom S1), some (Tm.atom S2), some (Tm.atom xh)] = T at *
  simp only [List.getElem?_toArray, List.getElem?_cons_succ, List.getElem?_cons_zero] at a3 a4 b3 b4
  cases hs : sayB σ T with
  | false =>
    have hO := H5.out
    rw [hs, if_neg (by simp)] at hO
    have H6 := Lib.hid hO
    rw [hs, sayS_no hs] at h36
    clear hO H5 hs
    go_region_held3 (fun w' => w'.cell? ⟨p, 3, none⟩ = some (.iface 62 (str S1)) ∧ w'.cell? ⟨p, 4, none⟩ = some (.iface 62 (str S2))) (first | exact ⟨a3, a4⟩ | exact ⟨b3 _, b4 _⟩ | exact ⟨c3, c4⟩)
      (first
        | (go_at_call 36; refine Calls.mono h36 (fun e w3 hp => ?_); obtain ⟨rfl, ⟨kb', hx⟩, k2⟩ := hp; have c3 := (D3.kb k2 hpb).cell 3; have c4 := (D3.kb k2 hpb).cell 4; simp only [List.getElem?_toArray, List.getElem?_cons_succ, List.getElem?_cons_zero] at c3 c4)
        | fail)
    all_goals go_wp2
    all_goals go_ret
    all_goals (have hO := H6.out; subst hO; exact ⟨rfl, ⟨_, _, _, _, _, hx⟩, B4.trans ((x3.below (al_below _ _)).kbq k2)⟩)
  | true =>
    have hO := H5.out
    rw [hs, if_pos rfl] at hO
    have H6 := Lib.hid hO
    rw [hs] at h36
    clear hO H5 hs
    have hSS := sayS_s σ T
    generalize sayS σ T = S at *
    go_region_held3 (fun w' => w'.cell? ⟨p, 3, none⟩ = some (.iface 62 (str S1)) ∧ w'.cell? ⟨p, 4, none⟩ = some (.iface 62 (str S2))) (first | exact ⟨a3, a4⟩ | exact ⟨b3 _, b4 _⟩ | exact ⟨c3, c4⟩)
      (first
        | (go_at_call 36; refine Calls.mono h36 (fun e w3 hp => ?_); obtain ⟨rfl, ⟨kb', hx⟩, k2⟩ := hp; have D4 := D3.kb k2 hpb; have c3 := D4.cell 3; have c4 := D4.cell 4; simp only [List.getElem?_toArray, List.getElem?_cons_succ, List.getElem?_cons_zero] at c3 c4)
        | fail)
    have B5 := B4.trans ((x3.below (al_below _ _)).kbq k2)
    have c1 := hx.cell1
    have hx4 := fun o => hx.below (al_below w3 o)
    have f1 := fun o => (hx4 o).free 1 (by omega)
    have c1' := fun o => (hx4 o).cell1
    have hR4 := fun o => (hx4 o).s
    unfold PS at hR4
    have hm1 : ps.length + 1 ≤ maxLen := by have := H2.out; unfold maxLen; omega
    have hm2 : (ps.length + 1) * 8 ≤ 140737488355328 := by have := H2.out; omega
    have hneb : ∀ g, (Value.slice A ps.length cap).ownBlock = some g → b ≠ g := fun g hg e => by
      subst e
      obtain ⟨cur, h0⟩ := hx.s.blk hg
      rw [hx.blk] at h0
      cases h0
    have hq3 : p ∉ ps ++ pr := hq
    have D4' := fun o => D4.below (al_below w3 o)
    have hsz : ∀ o, (w3.alloc o).heap.size = w3.heap.size + 1 := fun o => World.size_alloc _ _
    clear a3 a4 b3 b4 c3 c4 h36
    generalize hN : ps.length = N at *
    go_wp2_with (first
      | (refine wpList_append_lies _ (by rfl) (.tmp 52) (.tmp 54) 39 (by rfl) n0 67 i0 _ 1 8 Tryd.underlying39 hi0 hz0 hz1 hz2 rfl (by omega) (.slice A N cap) N (ps.map fun p => Value.pointer (some ⟨p, 0, none⟩)) (by rfl) (hR4 _) ⟨w3.heap.size, 0, none⟩ 1 1 [.pointer (some ⟨p, 0, none⟩)] (by rfl) (by rfl)
            (World.news_of_block (cs := #[.pointer (some ⟨p, 0, none⟩)]) (t := 67) (fr := (0, 0)) (new_blk _ _ _)) (by simp [Value.oneCell']) (by omega) hm1 hm2 (hx4 _).ln (w3.heap.size + 1) (hsz _) ?_
         intro gg cap' w9 hown hgrow hat hlt
         have c9 : w9.cell? ⟨b, 1, none⟩ = some (.slice A N cap) := (hgrow.cell_far ⟨b, 1, none⟩ (hx4 _).lt (fun e => hneb _ e.symm rfl)).trans (c1' _)
         have f9 : w9.frozen? ⟨b, 1, none⟩ = false := (hgrow.frozen_far ⟨b, 1, none⟩ (hx4 _).lt (fun e => hneb _ e.symm rfl)).trans (f1 _))
      | fail)
    go_ret
    subst hN
    have hEB : EB (w3.alloc (.cells #[.pointer (some ⟨p, 0, none⟩)] 67)) p ⟨0, 0, some (.atom xh), some (.atom S1), some (.atom S2), none⟩ := ⟨_, _, _, _, (D4' _).h, RT.atom _, RT.atom _, RT.atom _, rfl⟩
    obtain ⟨q1, q2⟩ := (hx4 _).appS hEB hq3 n1 hown hgrow hat (hsz _)
    have hO := H6.out
    subst hO
    exact ⟨rfl, ⟨_, _, _, _, _, q1⟩, (B5.trans ((al_below w3 _).up hx.ln)).trans q2⟩
end Go.Proofs.YthigfakjiknhcaaDoorT
