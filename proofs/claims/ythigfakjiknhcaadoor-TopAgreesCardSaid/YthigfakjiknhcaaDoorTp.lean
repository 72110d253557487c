/- The store: Hear, Steps, Knows. -/
import Derived.Test.YthigfakjiknhcaaDoorTo
namespace Go.Proofs.YthigfakjiknhcaaDoorT
open Go Go.Proofs Go.RowKit
set_option linter.unusedSimpArgs false
set_option linter.unusedVariables false
theorem MB.len {w : World} {b : Nat} {ks : List (List UInt8)} (h : MB w b ks) (ty : TypeId) : (Builtin.len_ #[57] ty #[.map (some b)]).run Tryd.prog w = .ok (.int .i64 (ks.length : Nat)) w := by
  obtain ⟨es, clock, hb, hm, hn⟩ := h
  have hl : es.size = ks.length := by
    have := congrArg List.length hm
    simpa using this
  rw [← hl]
  simp [Builtin.len_, run_underlying Tryd.underlying57, MapKept.run_getObj_map hb, goInt]
theorem KB.to_below {n b : Nat} {w w1 w2 : World} (hb : Below n w w1) (hk : KB b w1 w2) (h : n ≤ b) (hs : n ≤ w1.heap.size) : Below n w w2 :=
  ⟨hk.os.trans hb.os, hk.tape.trans hb.tape, hk.output.trans hb.output, Nat.le_trans hb.size hk.size, fun k hlt => (hk.block k (Nat.lt_of_lt_of_le hlt hs) (by omega)).trans (hb.block k hlt)⟩
theorem SB.lt {w : World} {b : Nat} {ks : List (List UInt8)} (h : SB w b ks) : b < w.heap.size := by
  obtain ⟨m, h1, _⟩ := h
  exact (Array.getElem?_eq_some_iff.1 h1).1
theorem SB.cellx {w : World} {b : Nat} {ks : List (List UInt8)} (h : SB w b ks) : ∃ v, w.cell? ⟨b, 0, none⟩ = some v := by
  obtain ⟨m, h1, _⟩ := h
  exact ⟨.map (some m), by rw [cell_at h1 0]; rfl⟩
theorem SB.free {w : World} {b : Nat} {ks : List (List UInt8)} (h : SB w b ks) : w.frozen? ⟨b, 0, none⟩ = false := by
  obtain ⟨m, h1, _⟩ := h
  simp [World.frozen?, h1]
set_option maxHeartbeats 8000000 in
set_option maxRecDepth 1000000 in
theorem hear_any {w : World} {b : Nat} {ks : List (List UInt8)} {t : Option Tm} {v : Value} (h : SB w b ks) (hr : RO w t v) (hl : ∀ x, t = some x → x.text.length ≤ 50000) :
    Calls Tryd.prog 13 #[.pointer (some ⟨b, 0, none⟩), v] w fun e w' => e = .returned (.int .i64 ((hear ks t).1 : Nat)) ∧ SB w' b (hear ks t).2 ∧ KB b w w' := by
  have hok := ok_any h
  cases t with
  | none =>
    have hv : v = .nilIface := hr
    subst hv
    go_enter Tryd.func13, Tryd.ntmps13
    go_wp2_with (go_at_call 29; refine Calls.mono hok (fun e w1 hp => ?_); obtain ⟨rfl, rfl⟩ := hp)
    go_ret
    exact ⟨rfl, h, KB.refl _ _⟩
  | some t =>
    have hr' : RT w t v := hr
    have htl := hl t rfl
    obtain ⟨D, u, rfl⟩ := hr'.shape
    have hS := h
    have hb := h.lt
    obtain ⟨m, h1, h2⟩ := h
    have c0 := cell_at h1 0
    simp at c0
    have hc := clone_any h2
    by_cases hbig : 500 < (splitS ks t).length
    · have hk : (500 : Int) < (((splitS ks t).length : Nat) : Int) := by omega
      have he : hear ks (some t) = (5, ks) := by unfold hear; simp only; rw [if_pos hbig]
      rw [he]
      go_enter Tryd.func13, Tryd.ntmps13
      go_wp2_with (go_at_call 29; refine Calls.mono hok (fun e w1 hp => ?_); obtain ⟨rfl, rfl⟩ := hp)
      go_wp2_with (go_at_call 30; refine Calls.mono hc (fun e w1 hp => ?_); obtain ⟨rfl, m1, b1⟩ := hp; have hr1 := hr'.mono (KT.of_below b1); have hs1 := hS.below b1)
      go_wp2_with (go_at_call 31; refine Calls.mono (split_any t _ _ _ _ htl hr1 m1) (fun e w2 hp => ?_); obtain ⟨rfl, m2, k2⟩ := hp; have hln := m2.len)
      have b2 := k2.to_below b1 (Nat.le_refl _) b1.size
      go_ret
      exact ⟨rfl, hS.below b2, KB.of_below b2⟩
    · have hk : ¬ (500 : Int) < (((splitS ks t).length : Nat) : Int) := by omega
      have he : hear ks (some t) = (0, splitS ks t) := by unfold hear; simp only; rw [if_neg hbig]
      rw [he]
      go_enter Tryd.func13, Tryd.ntmps13
      go_wp2_with (go_at_call 29; refine Calls.mono hok (fun e w1 hp => ?_); obtain ⟨rfl, rfl⟩ := hp)
      go_wp2_with (go_at_call 30; refine Calls.mono hc (fun e w1 hp => ?_); obtain ⟨rfl, m1, b1⟩ := hp; have hr1 := hr'.mono (KT.of_below b1); have hs1 := hS.below b1)
      go_wp2_with (go_at_call 31; refine Calls.mono (split_any t _ _ _ _ htl hr1 m1) (fun e w2 hp => ?_); obtain ⟨rfl, m2, k2⟩ := hp; have hln := m2.len; have b2 := k2.to_below b1 (Nat.le_refl _) b1.size; have hs2 := hS.below b2; have c2 := hs2.cellx; obtain ⟨c2v, c2c⟩ := c2; have f2 := hs2.free)
      go_ret
      obtain ⟨q1, q2⟩ := hs2.set m2
      exact ⟨rfl, q1, (KB.of_below b2).trans q2⟩
end Go.Proofs.YthigfakjiknhcaaDoorT
