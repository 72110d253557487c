/- A run begins. -/
import Derived.Test.YthigfakjiknhcaaDoorTxa
import Derived.OwnWalk
import Derived.StillTactics
import Derived.Deep.RegionLaw
namespace Go.Proofs.YthigfakjiknhcaaDoorT
open Go Go.Proofs Go.RowKit
set_option linter.unusedSimpArgs false
set_option linter.unusedVariables false
theorem info67 : (Tryd.prog.info? 67).map (fun i => (i.zero, i.size, i.bytes)) = some (some (.pointer none), 1, 8) := by kernel_rfl
/-- an event -/
structure Ev where
  kind : Int
  i : Int
  u : Int
  h : List UInt8
  a : List UInt8
  b : List UInt8
abbrev Ev.cs (x : Ev) : Array Value := #[.int .i64 x.kind, .int .i64 x.i, .int .i64 x.u, str x.h, str x.a, str x.b]
abbrev Ev.val (x : Ev) : Value := .agg x.cs
structure Ev.ok (x : Ev) : Prop where
  h : x.h.length ≤ 100000
  a : x.a.length ≤ 100000
  b : x.b.length ≤ 100000
def runsF (σ : St) (x : Ev) : Bool × St :=
  if σ.r.length = 6 ∨ certB x.h = false ∨ userB x.u = false then (false, σ)
  else (true, { σ with r := σ.r ++ [⟨0, x.u.toNat, mkA x.h, none, some (atT 113 σ.r.length), none⟩] })
theorem WX.cell1 {n0 : Nat} {w : World} {b kb : Nat} {vs vr : Value} {ps pr : List Nat} {σ : St} (h : WX n0 w b kb vs vr ps pr σ) : w.cell? ⟨b, 1, none⟩ = some vs := by rw [cell_at h.blk 1]; rfl
theorem WX.cell2 {n0 : Nat} {w : World} {b kb : Nat} {vs vr : Value} {ps pr : List Nat} {σ : St} (h : WX n0 w b kb vs vr ps pr σ) : w.cell? ⟨b, 2, none⟩ = some vr := by rw [cell_at h.blk 2]; rfl
theorem new_blk (w : World) (cs : Array Value) (T : TypeId) : (w.alloc (.cells cs T)).heap[w.heap.size]? = some (.cells cs T (0, 0)) := by show (w.heap.push _)[w.heap.size]? = _; simp
theorem EL.lt {w : World} {ps : List Nat} {es : List EndP} (h : EL w ps es) : ∀ p ∈ ps, p < w.heap.size := fun p hp => by
  obtain ⟨i, hi⟩ := List.mem_iff_getElem?.1 hp
  have hlt := (List.getElem?_eq_some_iff.1 hi).1
  obtain ⟨_, _, _, _, h0, _⟩ := h.2 i p _ hi (List.getElem?_eq_getElem (show i < es.length by have := h.1; omega))
  exact (Array.getElem?_eq_some_iff.1 h0).1
theorem WX.fresh {n0 : Nat} {w : World} {b kb : Nat} {vs vr : Value} {ps pr : List Nat} {σ : St} (h : WX n0 w b kb vs vr ps pr σ) {q : Nat} (hq : w.heap.size ≤ q) : q ∉ ps ++ pr := fun hm => by
  rcases List.mem_append.1 hm with hm | hm
  · have := h.se.lt q hm; omega
  · have := h.re.lt q hm; omega
set_option maxHeartbeats 8000000 in
set_option maxRecDepth 1000000 in
theorem runs_any {n0 : Nat} {w : World} {b : Nat} {σ : St} (h : WW n0 w b σ) (x : Ev) (hx : x.ok) (h6 : σ.r.length ≤ 6) : Calls Tryd.prog 19 #[.pointer (some ⟨b, 0, none⟩), x.val] w (TP n0 w b (runsF σ x)) := by
  obtain ⟨kb, vs, vr, ps, pr, h⟩ := h
  have h34 := cert_any x.h hx.h (w.alloc (.cells x.cs 29))
  have h26 := user_any x.u (w.alloc (.cells x.cs 29))
  have hx1 : WX n0 (w.alloc (.cells x.cs 29)) b kb vs vr ps pr σ := h.below (al_below _ _)
  have hb1 : BQ n0 w (w.alloc (.cells x.cs 29)) := (al_below _ _).up h.ln
  have hc2 := new_cell w x.cs 29 2
  have hc3 := new_cell w x.cs 29 3
  have c2 := hx1.cell2
  have hel := hx1.re.1
  obtain ⟨kd, xi, xu, xh, xa, xb⟩ := x
  simp only [Ev.cs, Ev.val] at *
  simp at hc2 hc3
  obtain ⟨A, cap, hvr⟩ := hx1.r.shape
  subst hvr
  by_cases hbad : σ.r.length = 6 ∨ certB xh = false ∨ userB xu = false
  · have he : runsF σ ⟨kd, xi, xu, xh, xa, xb⟩ = (false, σ) := by unfold runsF; rw [if_pos hbad]
    rw [he]
    by_cases hL : pr.length = 6
    · rw [hL] at c2
      go_enter Tryd.func19, Tryd.ntmps19
      go_wp2_with (go_at_call 34; refine Calls.mono h34 (fun e w1 hp => ?_); obtain ⟨⟨v, rfl, hv⟩, rfl⟩ := hp; rcases hv.shape with ⟨D, u, rfl⟩ | rfl)
      all_goals (go_wp2; go_ret; exact ⟨rfl, ⟨_, _, _, _, _, hx1⟩, hb1⟩)
    · have hL1 : (((pr.length : Nat) : Int) == 6) = false := by rw [beq_eq_false_iff_ne]; omega
      cases hC : certB xh with
      | false =>
        rw [hC] at h34
        go_enter Tryd.func19, Tryd.ntmps19
        go_wp2_with (go_at_call 34; refine Calls.mono h34 (fun e w1 hp => ?_); obtain ⟨⟨v, rfl, hv⟩, rfl⟩ := hp; rcases hv.shape with ⟨D, u, rfl⟩ | rfl)
        all_goals (go_wp2; go_ret; exact ⟨rfl, ⟨_, _, _, _, _, hx1⟩, hb1⟩)
      | true =>
        rw [hC] at h34
        have hU : userB xu = false := by
          rcases hbad with h0 | h0 | h0
          · omega
          · rw [hC] at h0; cases h0
          · exact h0
        rw [hU] at h26
        go_enter Tryd.func19, Tryd.ntmps19
        go_wp2_with (go_at_call 34; refine Calls.mono h34 (fun e w1 hp => ?_); obtain ⟨⟨v, rfl, hv⟩, rfl⟩ := hp; rcases hv.shape with ⟨D, u, rfl⟩ | rfl)
        all_goals (go_wp2_with (go_at_call 26; refine Calls.mono h26 (fun e w1 hp => ?_); obtain ⟨rfl, rfl⟩ := hp))
        all_goals (go_ret; exact ⟨rfl, ⟨_, _, _, _, _, hx1⟩, hb1⟩)
  · have hL : ¬ σ.r.length = 6 := fun hh => hbad (Or.inl hh)
    have hC : certB xh = true := by cases hh : certB xh with | true => rfl | false => exact absurd (Or.inr (Or.inl hh)) hbad
    have hU : userB xu = true := by cases hh : userB xu with | true => rfl | false => exact absurd (Or.inr (Or.inr hh)) hbad
    have he : runsF σ ⟨kd, xi, xu, xh, xa, xb⟩ = (true, { σ with r := σ.r ++ [⟨0, xu.toNat, mkA xh, none, some (atT 113 σ.r.length), none⟩] }) := by unfold runsF; rw [if_neg hbad]
    rw [he]
    rw [hC] at h34
    rw [hU] at h26
    obtain ⟨k, hk, rfl⟩ : ∃ k : Nat, k < 4 ∧ xu = k := by
      simp only [userB, Bool.and_eq_true, decide_eq_true_eq] at hU
      exact ⟨xu.toNat, by omega, by omega⟩
    rw [Int.toNat_natCast]
    have hL1 : (((pr.length : Nat) : Int) == 6) = false := by rw [beq_eq_false_iff_ne]; omega
    obtain ⟨Q, hQ⟩ : ∃ Q, Q = [113, dg pr.length] := ⟨_, rfl⟩
    have h35 : ∀ w, Calls Tryd.prog 35 #[.string ⟨#[113]⟩, .int .i64 (pr.length : Nat)] w fun e w' => e = .returned (.iface 62 (str Q)) ∧ w' = w := fun w => (atom35_any 113 pr.length rfl (by omega) w).mono fun e w' hp => by
      obtain ⟨⟨v, rfl, hv⟩, rfl⟩ := hp
      rw [RT_atom (s := [113, dg pr.length]) hv, hQ]
      exact ⟨rfl, rfl⟩
    have hAB : atB xh = true := by unfold certB at hC; rw [Bool.and_eq_true] at hC; exact hC.1
    have hmk : mkA xh = some (.atom xh) := by unfold mkA; rw [hAB]; rfl
    have hcT : atT 113 pr.length = .atom Q := by rw [hQ]; rfl
    rw [hmk] at h34 ⊢
    rw [← hel, hcT]
    clear hcT hQ
    obtain ⟨i0, hi0, hz0, hz1, hz2⟩ := info_parts info67
    have HEL := Lib.hid hel
    have HL6 : pr.length ≤ 6 := by omega
    clear hel
    have hEb : w.heap.size ≠ b := by have := h.lt; omega
    clear hc2 hc3
    go_enter Tryd.func19, Tryd.ntmps19
    go_wp2_with (go_at_call 34; refine Calls.mono h34 (fun e w1 hp => ?_); obtain ⟨⟨v, rfl, hv⟩, rfl⟩ := hp; have hv' := RT_atom hv; subst hv'; clear hv)
    go_wp2_with (go_at_call 26; refine Calls.mono h26 (fun e w1 hp => ?_); obtain ⟨rfl, rfl⟩ := hp)
    have hbc := new_cell w #[.int .i64 kd, .int .i64 xi, .int .i64 ((k : Nat) : Int), str xh, str xa, str xb] 29 2
    have hq0 : w.heap.size < (w.alloc (.cells #[.int .i64 kd, .int .i64 xi, .int .i64 ((k : Nat) : Int), str xh, str xa, str xb] 29)).heap.size := by simp
    generalize w.alloc (.cells #[.int .i64 kd, .int .i64 xi, .int .i64 ((k : Nat) : Int), str xh, str xa, str xb] 29) = W1 at *
    have hx2 : WX n0 W1.drew b kb vs (.slice A pr.length cap) ps pr σ := hx1.below (drew_below W1 1)
    have hx3 : ∀ o, WX n0 (W1.drew.alloc o) b kb vs (.slice A pr.length cap) ps pr σ := fun o => hx2.below (al_below _ _)
    have hx4 : ∀ o o', WX n0 ((W1.drew.alloc o).alloc o') b kb vs (.slice A pr.length cap) ps pr σ := fun o o' => (hx3 o).below (al_below _ _)
    have hbd : W1.drew.cell? ⟨w.heap.size, 2, none⟩ = some (.int .i64 ((k : Nat) : Int)) := hbc
    have hbe : ∀ o, (W1.drew.alloc o).cell? ⟨w.heap.size, 2, none⟩ = some (.int .i64 ((k : Nat) : Int)) := fun o => ((al_below W1.drew o).cell (p := ⟨w.heap.size, 2, none⟩) hq0).trans hbd
    have hbf : ∀ o o', ((W1.drew.alloc o).alloc o').cell? ⟨w.heap.size, 2, none⟩ = some (.int .i64 ((k : Nat) : Int)) := fun o o' => ((al_below (W1.drew.alloc o) o').cell (p := ⟨w.heap.size, 2, none⟩) (Nat.lt_of_lt_of_le hq0 (al_below W1.drew o).size)).trans (hbe o)
    have hne29 : ∀ g, (Value.slice A pr.length cap).ownBlock = some g → w.heap.size ≠ g := fun g hg => by
      have := (World.ownsRow.lt h.r g hg).2
      omega
    have hneb : ∀ g, (Value.slice A pr.length cap).ownBlock = some g → b ≠ g := fun g hg e => by
      subst e
      obtain ⟨cur, h0⟩ := h.r.blk hg
      rw [h.blk] at h0
      cases h0
    have hbs : ∀ o o', b < ((W1.drew.alloc o).alloc o').heap.size := fun o o' => (hx4 o o').lt
    have f2f := fun o o' => (hx4 o o').free 2 (by omega)
    have c2d := hx2.cell2
    have c2e := fun o => (hx3 o).cell2
    have c2f := fun o o' => (hx4 o o').cell2
    have c2e2 := fun o => ((hx1.below (al_below W1 o))).cell2
    have c2f2 := fun o o' => ((hx1.below (al_below W1 o)).below (al_below (W1.alloc o) o')).cell2
    have hR4 := fun o o' => (hx4 o o').r
    unfold PS at hR4
    have hnw : ∀ o, ((W1.drew.alloc o).alloc (.cells #[.pointer (some ⟨W1.heap.size, 0, none⟩)] 67)).heap[W1.heap.size + 1]? = some (.cells #[.pointer (some ⟨W1.heap.size, 0, none⟩)] 67 (0, 0)) := fun o => by
      have := new_blk (W1.drew.alloc o) #[.pointer (some ⟨W1.heap.size, 0, none⟩)] 67
      rw [World.size_alloc] at this
      exact this
    have hsz : ∀ o o', ((W1.drew.alloc o).alloc o').heap.size = W1.heap.size + 2 := fun o o' => by rw [World.size_alloc, World.size_alloc]; rfl
    have hEs : ∀ o o', w.heap.size < ((W1.drew.alloc o).alloc o').heap.size := fun o o' => by rw [hsz]; omega
    have hm1 : pr.length + 1 ≤ maxLen := by unfold maxLen; omega
    have hm2 : (pr.length + 1) * 8 ≤ 140737488355328 := by omega
    generalize hE : w.heap.size = E at *
    generalize hN : pr.length = N at *
    go_region_law
      (first
        | (refine step_append_lies _ (by rfl) (.tmp 33) (.tmp 45) 39 (by rfl) n0 67 i0 _ 1 8 Tryd.underlying39 hi0 hz0 hz1 hz2 rfl (by omega) (.slice A N cap) N (pr.map fun p => Value.pointer (some ⟨p, 0, none⟩)) (by rfl) (hR4 _ _) ⟨W1.heap.size + 1, 0, none⟩ 1 1 [.pointer (some ⟨W1.heap.size, 0, none⟩)] (by rfl) (by rfl)
            (World.news_of_block (cs := #[.pointer (some ⟨W1.heap.size, 0, none⟩)]) (t := 67) (fr := (0, 0)) (hnw _)) (by simp [Value.oneCell']) (by omega) hm1 hm2 (hx4 _ _).ln (W1.heap.size + 2) (hsz _ _) ?_
           intro gg cap' w9 hown hgrow hat hlt
           have hbg : w9.cell? ⟨E, 2, none⟩ = some (.int .i64 ((k : Nat) : Int)) := (hgrow.cell_far ⟨E, 2, none⟩ (hEs _ _) (fun e => hne29 _ e.symm rfl)).trans (hbf _ _)
           have hbh : ∀ v, (w9.setCell ⟨b, 2, none⟩ v).cell? ⟨E, 2, none⟩ = some (.int .i64 ((k : Nat) : Int)) := fun v => (World.cell?_of_block (Below.heap_setCell _ _ _ _ hEb)).trans hbg
           have c9 : w9.cell? ⟨b, 2, none⟩ = some (.slice A N cap) := (hgrow.cell_far ⟨b, 2, none⟩ (hbs _ _) (fun e => hneb _ e.symm rfl)).trans (c2f _ _)
           have f9 : w9.frozen? ⟨b, 2, none⟩ = false := (hgrow.frozen_far ⟨b, 2, none⟩ (hbs _ _) (fun e => hneb _ e.symm rfl)).trans (f2f _ _))
        | (go_simp; go_at_call 35; refine Calls.mono (h35 _) (fun e w1 hp => ?_); obtain ⟨rfl, rfl⟩ := hp; go_simp)
        | fail)
    all_goals go_wp2
    all_goals go_ret
    all_goals (
      subst hN
      have hEB : EB (W1.drew.alloc (.cells #[.int .i64 0, .int .i64 ((k : Nat) : Int), .iface 62 (str xh), .nilIface, .iface 62 (str Q), .nilIface] 70)) W1.heap.size ⟨0, k, some (.atom xh), none, some (.atom Q), none⟩ := ⟨_, _, _, _, new_blk W1.drew _ _, RT.atom _, rfl, RT.atom _, rfl⟩
      obtain ⟨q1, q2⟩ := (hx4 _ _).appR (hEB.below (al_below _ _)) (hx1.fresh (Nat.le_refl _)) hx1.ln hown hgrow hat (hsz _ _)
      exact ⟨rfl, ⟨_, _, _, _, _, q1⟩, (hb1.trans ((((drew_below W1 1).up hx1.ln).trans ((al_below _ _).up hx2.ln)).trans ((al_below _ _).up (hx3 _).ln))).trans q2⟩)
end Go.Proofs.YthigfakjiknhcaaDoorT
