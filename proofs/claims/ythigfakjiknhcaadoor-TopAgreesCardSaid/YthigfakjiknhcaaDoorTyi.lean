/- Do, walked. -/
import Derived.Test.YthigfakjiknhcaaDoorTyh
namespace Go.Proofs.YthigfakjiknhcaaDoorT
open Go Go.Proofs Go.RowKit
set_option linter.unusedSimpArgs false
set_option linter.unusedVariables false
set_option maxHeartbeats 8000000 in
set_option maxRecDepth 1000000 in
theorem do_1 {n0 : Nat} {w : World} {b : Nat} {σ : St} (h : WW n0 w b σ) (xi xu : Int) (xh xa xb : List UInt8) (hx : (Ev.mk 1 xi xu xh xa xb).ok) (ok : σ.ok) :
    Calls Tryd.prog 6 #[.pointer (some ⟨b, 0, none⟩), (Ev.mk 1 xi xu xh xa xb).val] w (TP n0 w b (servesF σ (Ev.mk 1 xi xu xh xa xb))) := by
  obtain ⟨kb, vs, vr, ps, pr, h⟩ := h
  have hx1 : WX n0 (w.alloc (.cells (Ev.mk 1 xi xu xh xa xb).cs 29)) b kb vs vr ps pr σ := h.below (al_below _ _)
  have hb1 : BQ n0 w (w.alloc (.cells (Ev.mk 1 xi xu xh xa xb).cs 29)) := (al_below _ _).up h.ln
  have hX1 : XB (w.alloc (.cells (Ev.mk 1 xi xu xh xa xb).cs 29)) w.heap.size (Ev.mk 1 xi xu xh xa xb).cs := new_blk _ _ _
  have h17 := ok17_any hx1.cell0
  have hf := serves_any ⟨_, _, _, _, _, hx1⟩ (Ev.mk 1 xi xu xh xa xb) hx ok
  simp only [Ev.cs, Ev.val] at *
  generalize servesF σ (Ev.mk 1 xi xu xh xa xb) = O at *
  obtain ⟨e1, e2, e3, e4, e5⟩ := hX1.ev
  have e0 := hX1.cell 0
  simp only [List.getElem?_toArray, List.getElem?_cons_succ, List.getElem?_cons_zero] at e0
  go_enter Tryd.func6, Tryd.ntmps6
  go_wp2_with (first | (go_at_call 17; generalize w.alloc (.cells #[.int .i64 1, .int .i64 xi, .int .i64 xu, str xh, str xa, str xb] 29) = W1 at *; refine Calls.mono h17 (fun e w1 hp => ?_); obtain ⟨rfl, rfl⟩ := hp) | fail)
  go_wp2_with (go_at_call 18; refine Calls.mono hf (fun e w2 hp => ?_); obtain ⟨rfl, q, bl⟩ := hp)
  go_ret
  exact ⟨rfl, q, hb1.trans bl⟩
set_option maxHeartbeats 8000000 in
set_option maxRecDepth 1000000 in
theorem do_2 {n0 : Nat} {w : World} {b : Nat} {σ : St} (h : WW n0 w b σ) (xi xu : Int) (xh xa xb : List UInt8) (hx : (Ev.mk 2 xi xu xh xa xb).ok) (ok : σ.ok) :
    Calls Tryd.prog 6 #[.pointer (some ⟨b, 0, none⟩), (Ev.mk 2 xi xu xh xa xb).val] w (TP n0 w b (runsF σ (Ev.mk 2 xi xu xh xa xb))) := by
  obtain ⟨kb, vs, vr, ps, pr, h⟩ := h
  have hx1 : WX n0 (w.alloc (.cells (Ev.mk 2 xi xu xh xa xb).cs 29)) b kb vs vr ps pr σ := h.below (al_below _ _)
  have hb1 : BQ n0 w (w.alloc (.cells (Ev.mk 2 xi xu xh xa xb).cs 29)) := (al_below _ _).up h.ln
  have hX1 : XB (w.alloc (.cells (Ev.mk 2 xi xu xh xa xb).cs 29)) w.heap.size (Ev.mk 2 xi xu xh xa xb).cs := new_blk _ _ _
  have h17 := ok17_any hx1.cell0
  have hf := runs_any ⟨_, _, _, _, _, hx1⟩ (Ev.mk 2 xi xu xh xa xb) hx ok.lr
  simp only [Ev.cs, Ev.val] at *
  generalize runsF σ (Ev.mk 2 xi xu xh xa xb) = O at *
  obtain ⟨e1, e2, e3, e4, e5⟩ := hX1.ev
  have e0 := hX1.cell 0
  simp only [List.getElem?_toArray, List.getElem?_cons_succ, List.getElem?_cons_zero] at e0
  go_enter Tryd.func6, Tryd.ntmps6
  go_wp2_with (first | (go_at_call 17; generalize w.alloc (.cells #[.int .i64 2, .int .i64 xi, .int .i64 xu, str xh, str xa, str xb] 29) = W1 at *; refine Calls.mono h17 (fun e w1 hp => ?_); obtain ⟨rfl, rfl⟩ := hp) | fail)
  go_wp2_with (go_at_call 19; refine Calls.mono hf (fun e w2 hp => ?_); obtain ⟨rfl, q, bl⟩ := hp)
  go_ret
  exact ⟨rfl, q, hb1.trans bl⟩
set_option maxHeartbeats 8000000 in
set_option maxRecDepth 1000000 in
theorem do_3 {n0 : Nat} {w : World} {b : Nat} {σ : St} (h : WW n0 w b σ) (xi xu : Int) (xh xa xb : List UInt8) (hx : (Ev.mk 3 xi xu xh xa xb).ok) (ok : σ.ok) :
    Calls Tryd.prog 6 #[.pointer (some ⟨b, 0, none⟩), (Ev.mk 3 xi xu xh xa xb).val] w (TP n0 w b (asksF σ (Ev.mk 3 xi xu xh xa xb))) := by
  obtain ⟨kb, vs, vr, ps, pr, h⟩ := h
  have hx1 : WX n0 (w.alloc (.cells (Ev.mk 3 xi xu xh xa xb).cs 29)) b kb vs vr ps pr σ := h.below (al_below _ _)
  have hb1 : BQ n0 w (w.alloc (.cells (Ev.mk 3 xi xu xh xa xb).cs 29)) := (al_below _ _).up h.ln
  have hX1 : XB (w.alloc (.cells (Ev.mk 3 xi xu xh xa xb).cs 29)) w.heap.size (Ev.mk 3 xi xu xh xa xb).cs := new_blk _ _ _
  have h17 := ok17_any hx1.cell0
  have hf := asks_any ⟨_, _, _, _, _, hx1⟩ (Ev.mk 3 xi xu xh xa xb) hx ok
  simp only [Ev.cs, Ev.val] at *
  generalize asksF σ (Ev.mk 3 xi xu xh xa xb) = O at *
  obtain ⟨e1, e2, e3, e4, e5⟩ := hX1.ev
  have e0 := hX1.cell 0
  simp only [List.getElem?_toArray, List.getElem?_cons_succ, List.getElem?_cons_zero] at e0
  go_enter Tryd.func6, Tryd.ntmps6
  go_wp2_with (first | (go_at_call 17; generalize w.alloc (.cells #[.int .i64 3, .int .i64 xi, .int .i64 xu, str xh, str xa, str xb] 29) = W1 at *; refine Calls.mono h17 (fun e w1 hp => ?_); obtain ⟨rfl, rfl⟩ := hp) | fail)
  go_wp2_with (go_at_call 20; refine Calls.mono hf (fun e w2 hp => ?_); obtain ⟨rfl, q, bl⟩ := hp)
  go_ret
  exact ⟨rfl, q, hb1.trans bl⟩
set_option maxHeartbeats 8000000 in
set_option maxRecDepth 1000000 in
theorem do_4 {n0 : Nat} {w : World} {b : Nat} {σ : St} (h : WW n0 w b σ) (xi xu : Int) (xh xa xb : List UInt8) (hx : (Ev.mk 4 xi xu xh xa xb).ok) (ok : σ.ok) :
    Calls Tryd.prog 6 #[.pointer (some ⟨b, 0, none⟩), (Ev.mk 4 xi xu xh xa xb).val] w (TP n0 w b (tellsF σ (Ev.mk 4 xi xu xh xa xb))) := by
  obtain ⟨kb, vs, vr, ps, pr, h⟩ := h
  have hx1 : WX n0 (w.alloc (.cells (Ev.mk 4 xi xu xh xa xb).cs 29)) b kb vs vr ps pr σ := h.below (al_below _ _)
  have hb1 : BQ n0 w (w.alloc (.cells (Ev.mk 4 xi xu xh xa xb).cs 29)) := (al_below _ _).up h.ln
  have hX1 : XB (w.alloc (.cells (Ev.mk 4 xi xu xh xa xb).cs 29)) w.heap.size (Ev.mk 4 xi xu xh xa xb).cs := new_blk _ _ _
  have h17 := ok17_any hx1.cell0
  have hf := tells_any ⟨_, _, _, _, _, hx1⟩ (Ev.mk 4 xi xu xh xa xb) hx ok
  simp only [Ev.cs, Ev.val] at *
  generalize tellsF σ (Ev.mk 4 xi xu xh xa xb) = O at *
  obtain ⟨e1, e2, e3, e4, e5⟩ := hX1.ev
  have e0 := hX1.cell 0
  simp only [List.getElem?_toArray, List.getElem?_cons_succ, List.getElem?_cons_zero] at e0
  go_enter Tryd.func6, Tryd.ntmps6
  go_wp2_with (first | (go_at_call 17; generalize w.alloc (.cells #[.int .i64 4, .int .i64 xi, .int .i64 xu, str xh, str xa, str xb] 29) = W1 at *; refine Calls.mono h17 (fun e w1 hp => ?_); obtain ⟨rfl, rfl⟩ := hp) | fail)
  go_wp2_with (go_at_call 21; refine Calls.mono hf (fun e w2 hp => ?_); obtain ⟨rfl, q, bl⟩ := hp)
  go_ret
  exact ⟨rfl, q, hb1.trans bl⟩
set_option maxHeartbeats 8000000 in
set_option maxRecDepth 1000000 in
theorem do_5 {n0 : Nat} {w : World} {b : Nat} {σ : St} (h : WW n0 w b σ) (xi xu : Int) (xh xa xb : List UInt8) (hx : (Ev.mk 5 xi xu xh xa xb).ok) (ok : σ.ok) :
    Calls Tryd.prog 6 #[.pointer (some ⟨b, 0, none⟩), (Ev.mk 5 xi xu xh xa xb).val] w (TP n0 w b (provesF σ (Ev.mk 5 xi xu xh xa xb))) := by
  obtain ⟨kb, vs, vr, ps, pr, h⟩ := h
  have hx1 : WX n0 (w.alloc (.cells (Ev.mk 5 xi xu xh xa xb).cs 29)) b kb vs vr ps pr σ := h.below (al_below _ _)
  have hb1 : BQ n0 w (w.alloc (.cells (Ev.mk 5 xi xu xh xa xb).cs 29)) := (al_below _ _).up h.ln
  have hX1 : XB (w.alloc (.cells (Ev.mk 5 xi xu xh xa xb).cs 29)) w.heap.size (Ev.mk 5 xi xu xh xa xb).cs := new_blk _ _ _
  have h17 := ok17_any hx1.cell0
  have hf := proves_any ⟨_, _, _, _, _, hx1⟩ (Ev.mk 5 xi xu xh xa xb) hx ok
  simp only [Ev.cs, Ev.val] at *
  generalize provesF σ (Ev.mk 5 xi xu xh xa xb) = O at *
  obtain ⟨e1, e2, e3, e4, e5⟩ := hX1.ev
  have e0 := hX1.cell 0
  simp only [List.getElem?_toArray, List.getElem?_cons_succ, List.getElem?_cons_zero] at e0
  go_enter Tryd.func6, Tryd.ntmps6
  go_wp2_with (first | (go_at_call 17; generalize w.alloc (.cells #[.int .i64 5, .int .i64 xi, .int .i64 xu, str xh, str xa, str xb] 29) = W1 at *; refine Calls.mono h17 (fun e w1 hp => ?_); obtain ⟨rfl, rfl⟩ := hp) | fail)
  go_wp2_with (go_at_call 22; refine Calls.mono hf (fun e w2 hp => ?_); obtain ⟨rfl, q, bl⟩ := hp)
  go_ret
  exact ⟨rfl, q, hb1.trans bl⟩
set_option maxHeartbeats 8000000 in
set_option maxRecDepth 1000000 in
theorem do_6 {n0 : Nat} {w : World} {b : Nat} {σ : St} (h : WW n0 w b σ) (xi xu : Int) (xh xa xb : List UInt8) (hx : (Ev.mk 6 xi xu xh xa xb).ok) (ok : σ.ok) :
    Calls Tryd.prog 6 #[.pointer (some ⟨b, 0, none⟩), (Ev.mk 6 xi xu xh xa xb).val] w (TP n0 w b (bindF σ (Ev.mk 6 xi xu xh xa xb))) := by
  obtain ⟨kb, vs, vr, ps, pr, h⟩ := h
  have hx1 : WX n0 (w.alloc (.cells (Ev.mk 6 xi xu xh xa xb).cs 29)) b kb vs vr ps pr σ := h.below (al_below _ _)
  have hb1 : BQ n0 w (w.alloc (.cells (Ev.mk 6 xi xu xh xa xb).cs 29)) := (al_below _ _).up h.ln
  have hX1 : XB (w.alloc (.cells (Ev.mk 6 xi xu xh xa xb).cs 29)) w.heap.size (Ev.mk 6 xi xu xh xa xb).cs := new_blk _ _ _
  have h17 := ok17_any hx1.cell0
  have hf := bind_any ⟨_, _, _, _, _, hx1⟩ (Ev.mk 6 xi xu xh xa xb) hx ok
  simp only [Ev.cs, Ev.val] at *
  generalize bindF σ (Ev.mk 6 xi xu xh xa xb) = O at *
  obtain ⟨e1, e2, e3, e4, e5⟩ := hX1.ev
  have e0 := hX1.cell 0
  simp only [List.getElem?_toArray, List.getElem?_cons_succ, List.getElem?_cons_zero] at e0
  go_enter Tryd.func6, Tryd.ntmps6
  go_wp2_with (first | (go_at_call 17; generalize w.alloc (.cells #[.int .i64 6, .int .i64 xi, .int .i64 xu, str xh, str xa, str xb] 29) = W1 at *; refine Calls.mono h17 (fun e w1 hp => ?_); obtain ⟨rfl, rfl⟩ := hp) | fail)
  go_wp2_with (go_at_call 23; refine Calls.mono hf (fun e w2 hp => ?_); obtain ⟨rfl, q, bl⟩ := hp)
  go_ret
  exact ⟨rfl, q, hb1.trans bl⟩
set_option maxHeartbeats 8000000 in
set_option maxRecDepth 1000000 in
theorem do_7 {n0 : Nat} {w : World} {b : Nat} {σ : St} (h : WW n0 w b σ) (xi xu : Int) (xh xa xb : List UInt8) (hx : (Ev.mk 7 xi xu xh xa xb).ok) (ok : σ.ok) :
    Calls Tryd.prog 6 #[.pointer (some ⟨b, 0, none⟩), (Ev.mk 7 xi xu xh xa xb).val] w (TP n0 w b (leaksF σ xu)) := by
  obtain ⟨kb, vs, vr, ps, pr, h⟩ := h
  have hx1 : WX n0 (w.alloc (.cells (Ev.mk 7 xi xu xh xa xb).cs 29)) b kb vs vr ps pr σ := h.below (al_below _ _)
  have hb1 : BQ n0 w (w.alloc (.cells (Ev.mk 7 xi xu xh xa xb).cs 29)) := (al_below _ _).up h.ln
  have hX1 : XB (w.alloc (.cells (Ev.mk 7 xi xu xh xa xb).cs 29)) w.heap.size (Ev.mk 7 xi xu xh xa xb).cs := new_blk _ _ _
  have h17 := ok17_any hx1.cell0
  have hf := leaks_any ⟨_, _, _, _, _, hx1⟩ xu
  simp only [Ev.cs, Ev.val] at *
  generalize leaksF σ xu = O at *
  obtain ⟨e1, e2, e3, e4, e5⟩ := hX1.ev
  have e0 := hX1.cell 0
  simp only [List.getElem?_toArray, List.getElem?_cons_succ, List.getElem?_cons_zero] at e0
  go_enter Tryd.func6, Tryd.ntmps6
  go_wp2_with (first | (go_at_call 17; generalize w.alloc (.cells #[.int .i64 7, .int .i64 xi, .int .i64 xu, str xh, str xa, str xb] 29) = W1 at *; refine Calls.mono h17 (fun e w1 hp => ?_); obtain ⟨rfl, rfl⟩ := hp) | fail)
  go_wp2_with (go_at_call 24; refine Calls.mono hf (fun e w2 hp => ?_); obtain ⟨rfl, q, bl⟩ := hp)
  go_ret
  exact ⟨rfl, q, hb1.trans bl⟩
set_option maxHeartbeats 8000000 in
set_option maxRecDepth 1000000 in
theorem do_kd {n0 : Nat} {w : World} {b : Nat} {σ : St} (h : WW n0 w b σ) (kd xi xu : Int) (xh xa xb : List UInt8) (hx : (Ev.mk kd xi xu xh xa xb).ok) (ok : σ.ok) (hk : ¬ kd = 1 ∧ ¬ kd = 2 ∧ ¬ kd = 3 ∧ ¬ kd = 4 ∧ ¬ kd = 5 ∧ ¬ kd = 6 ∧ ¬ kd = 7) :
    Calls Tryd.prog 6 #[.pointer (some ⟨b, 0, none⟩), (Ev.mk kd xi xu xh xa xb).val] w (TP n0 w b (false, σ)) := by
  obtain ⟨kb, vs, vr, ps, pr, h⟩ := h
  have hx1 : WX n0 (w.alloc (.cells (Ev.mk kd xi xu xh xa xb).cs 29)) b kb vs vr ps pr σ := h.below (al_below _ _)
  have hb1 : BQ n0 w (w.alloc (.cells (Ev.mk kd xi xu xh xa xb).cs 29)) := (al_below _ _).up h.ln
  have hX1 : XB (w.alloc (.cells (Ev.mk kd xi xu xh xa xb).cs 29)) w.heap.size (Ev.mk kd xi xu xh xa xb).cs := new_blk _ _ _
  have h17 := ok17_any hx1.cell0
  simp only [Ev.cs, Ev.val] at *
  obtain ⟨e1, e2, e3, e4, e5⟩ := hX1.ev
  have e0 := hX1.cell 0
  simp only [List.getElem?_toArray, List.getElem?_cons_succ, List.getElem?_cons_zero] at e0
  obtain ⟨q1, q2, q3, q4, q5, q6, q7⟩ := hk
  have z1 : (kd == 1) = false := by rw [beq_eq_false_iff_ne]; exact q1
  have z2 : (kd == 2) = false := by rw [beq_eq_false_iff_ne]; exact q2
  have z3 : (kd == 3) = false := by rw [beq_eq_false_iff_ne]; exact q3
  have z4 : (kd == 4) = false := by rw [beq_eq_false_iff_ne]; exact q4
  have z5 : (kd == 5) = false := by rw [beq_eq_false_iff_ne]; exact q5
  have z6 : (kd == 6) = false := by rw [beq_eq_false_iff_ne]; exact q6
  have z7 : (kd == 7) = false := by rw [beq_eq_false_iff_ne]; exact q7
  clear q1 q2 q3 q4 q5 q6 q7
  go_enter Tryd.func6, Tryd.ntmps6
  go_wp2_with (first | (go_at_call 17; generalize w.alloc (.cells #[.int .i64 kd, .int .i64 xi, .int .i64 xu, str xh, str xa, str xb] 29) = W1 at *; refine Calls.mono h17 (fun e w1 hp => ?_); obtain ⟨rfl, rfl⟩ := hp) | fail)
  go_ret
  exact ⟨rfl, ⟨_, _, _, _, _, hx1⟩, hb1⟩
theorem do_any {n0 : Nat} {w : World} {b : Nat} {σ : St} (h : WW n0 w b σ) (x : Ev) (hx : x.ok) (ok : σ.ok) : Calls Tryd.prog 6 #[.pointer (some ⟨b, 0, none⟩), x.val] w (TP n0 w b (doF σ x)) := by
  obtain ⟨kd, xi, xu, xh, xa, xb⟩ := x
  unfold doF
  by_cases h1 : kd = 1
  · subst h1; simp only [if_true, if_pos, if_neg, show ¬ (1 : Int) = 0 from by decide]; exact do_1 h xi xu xh xa xb hx ok
  by_cases h2 : kd = 2
  · subst h2; simp only [if_true, if_pos, if_neg, show ¬ (2 : Int) = 0 from by decide, show ¬ (2 : Int) = 1 from by decide]; exact do_2 h xi xu xh xa xb hx ok
  by_cases h3 : kd = 3
  · subst h3; simp only [if_true, if_pos, if_neg, show ¬ (3 : Int) = 0 from by decide, show ¬ (3 : Int) = 1 from by decide, show ¬ (3 : Int) = 2 from by decide]; exact do_3 h xi xu xh xa xb hx ok
  by_cases h4 : kd = 4
  · subst h4; simp only [if_true, if_pos, if_neg, show ¬ (4 : Int) = 0 from by decide, show ¬ (4 : Int) = 1 from by decide, show ¬ (4 : Int) = 2 from by decide, show ¬ (4 : Int) = 3 from by decide]; exact do_4 h xi xu xh xa xb hx ok
  by_cases h5 : kd = 5
  · subst h5; simp only [if_true, if_pos, if_neg, show ¬ (5 : Int) = 0 from by decide, show ¬ (5 : Int) = 1 from by decide, show ¬ (5 : Int) = 2 from by decide, show ¬ (5 : Int) = 3 from by decide, show ¬ (5 : Int) = 4 from by decide]; exact do_5 h xi xu xh xa xb hx ok
  by_cases h6 : kd = 6
  · subst h6; simp only [if_true, if_pos, if_neg, show ¬ (6 : Int) = 0 from by decide, show ¬ (6 : Int) = 1 from by decide, show ¬ (6 : Int) = 2 from by decide, show ¬ (6 : Int) = 3 from by decide, show ¬ (6 : Int) = 4 from by decide, show ¬ (6 : Int) = 5 from by decide]; exact do_6 h xi xu xh xa xb hx ok
  by_cases h7 : kd = 7
  · subst h7; simp only [if_true, if_pos, if_neg, show ¬ (7 : Int) = 0 from by decide, show ¬ (7 : Int) = 1 from by decide, show ¬ (7 : Int) = 2 from by decide, show ¬ (7 : Int) = 3 from by decide, show ¬ (7 : Int) = 4 from by decide, show ¬ (7 : Int) = 5 from by decide, show ¬ (7 : Int) = 6 from by decide]; exact do_7 h xi xu xh xa xb hx ok
  simp only [h1, h2, h3, h4, h5, h6, h7, if_false]
  exact do_kd h kd xi xu xh xa xb hx ok ⟨h1, h2, h3, h4, h5, h6, h7⟩
end Go.Proofs.YthigfakjiknhcaaDoorT
