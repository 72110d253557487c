/- say: the listener hears all, or nothing. -/
import Derived.Test.YthigfakjiknhcaaDoorTu
namespace Go.Proofs.YthigfakjiknhcaaDoorT
open Go Go.Proofs Go.RowKit
set_option linter.unusedSimpArgs false
set_option linter.unusedVariables false
/-- the state behind what is said, and whether it is -/
def sayS (σ : St) (ts : List (Option Tm)) : St := match sayO σ.ks ts with | some k => { σ with ks := k } | none => σ
def sayB (σ : St) (ts : List (Option Tm)) : Bool := (sayO σ.ks ts).isSome
theorem RLO.kb {b : Nat} {w w' : World} {ts : List (Option Tm)} {r : Nat} (h : RLO w ts r) (k : KB b w w') (kt : KT w w') (hne : r ≠ b) (hr : r < w.heap.size) : RLO w' ts r := fun j t hj => by
  obtain ⟨x, h3, h4⟩ := h j t hj
  exact ⟨x, (World.cell?_of_block (k.block r hr hne)).trans h3, h4.mono kt⟩
theorem WX.cell0 {n0 : Nat} {w : World} {b kb : Nat} {vs vr : Value} {ps pr : List Nat} {σ : St} (h : WX n0 w b kb vs vr ps pr σ) : w.cell? ⟨b, 0, none⟩ = some (.pointer (some ⟨kb, 0, none⟩)) := by rw [cell_at h.blk 0]; rfl
theorem WX.free {n0 : Nat} {w : World} {b kb : Nat} {vs vr : Value} {ps pr : List Nat} {σ : St} (h : WX n0 w b kb vs vr ps pr σ) (j : Nat) (hj : j < 7) : w.frozen? ⟨b, j, none⟩ = false := by
  simp [World.frozen?, h.blk]
theorem WX.setK {n0 : Nat} {w : World} {b kb : Nat} {vs vr : Value} {ps pr : List Nat} {σ : St} (h : WX n0 w b kb vs vr ps pr σ) {kb' : Nat} {ks : List (List UInt8)} (hs : SB w kb' ks) :
    WX n0 (w.setCell ⟨b, 0, none⟩ (.pointer (some ⟨kb', 0, none⟩))) b kb' vs vr ps pr { σ with ks := ks } ∧ KB b w (w.setCell ⟨b, 0, none⟩ (.pointer (some ⟨kb', 0, none⟩))) := by
  have k : KB b w (w.setCell ⟨b, 0, none⟩ (.pointer (some ⟨kb', 0, none⟩))) := ⟨rfl, rfl, rfl, by simp [World.setCell], fun i hi hne => Below.heap_setCell _ _ _ _ hne⟩
  have r := h.kb k
  have hb := h.blk
  refine ⟨⟨?_, hs.kb k ?_ ?_, r.s, r.r, r.se, r.re, h.nd, h.ne, h.lb, h.lp, Nat.le_trans h.ln k.size⟩, k⟩
  · simp [World.setCell, Array.getElem?_modify, hb]
  · intro e
    subst e
    obtain ⟨m, h1, _⟩ := hs
    rw [hb] at h1
    cases h1
  · intro es c e
    rw [hb] at e
    cases e
theorem ne_zero {n : Nat} (h : ¬ n = 0) : (((n : Nat) : Int) != 0) = true := by rw [bne_iff_ne]; omega
set_option maxHeartbeats 8000000 in
set_option maxRecDepth 1000000 in
theorem say_any {n0 : Nat} {w : World} {b kb : Nat} {vs vr : Value} {ps pr : List Nat} {σ : St} {ts : List (Option Tm)} {r : Nat} (h : WX n0 w b kb vs vr ps pr σ) (hl : RLO w ts r) (hg : ∀ o ∈ ts, goodO o) (hn : ts.length ≤ 10) (hrl : r < w.heap.size) :
    Calls Tryd.prog 36 #[.pointer (some ⟨b, 0, none⟩), .slice (some ⟨r, 0, none⟩) ts.length ts.length] w fun e w' => e = .returned (.bool (sayB σ ts)) ∧ (∃ kb', WX n0 w' b kb' vs vr ps pr (sayS σ ts)) ∧ KB b w w' := by
  have c0 := h.cell0
  have f0 := h.free 0 (by omega)
  have h56 := copy_any h.st
  go_enter Tryd.func36, Tryd.ntmps36
  go_wp2_with (go_at_call 56; refine Calls.mono h56 (fun e w1 hp => ?_); obtain ⟨⟨k1, rfl, hk1, hs1⟩, b1⟩ := hp; have hl1 := hl.below b1; have hx1 := h.below b1)
  have hrk : r ≠ k1 := by omega
  have hbk : b ≠ k1 := by have := h.lt; omega
  have hr1 : r < w1.heap.size := Nat.lt_of_lt_of_le hrl b1.size
  go_loopw [15] (fun vi wr => ∃ k : Nat, vi = .int .i64 k ∧ k ≤ ts.length ∧ KB k1 w1 wr ∧ ∃ ksk, SB wr k1 ksk ∧ sayO σ.ks ts = sayO ksk (ts.drop k)) (fun vi _ => ts.length - (intOf vi).toNat)
  case atStart => exact ⟨0, rfl, Nat.zero_le _, KB.refl _ _, σ.ks, hs1, rfl⟩
  case round =>
    obtain ⟨k, rfl, hk, hkb, ksk, hsk, heq⟩ := hrel
    have hlr := hl1.kb hkb (hs1.kt hkb) hrk hr1
    by_cases hlt : k < ts.length
    · have hk1' : ((k : Nat) : Int) < ((ts.length : Nat) : Int) := by omega
      have hgk := List.getElem?_eq_getElem hlt
      obtain ⟨y, c0, hy⟩ := hlr k _ hgk
      have hgo := hg _ (List.getElem_mem hlt)
      rw [List.drop_eq_getElem_cons hlt] at heq
      generalize ts[k] = t at *
      have h13 := hear_any hsk hy hgo.len
      have hsay : sayO ksk (t :: ts.drop (k + 1)) = if (hear ksk t).1 = 0 then sayO (hear ksk t).2 (ts.drop (k + 1)) else none := rfl
      by_cases hz : (hear ksk t).1 = 0
      · rw [if_pos hz] at hsay
        rw [hz] at h13
        go_wp2_with (go_at_call 13; refine Calls.mono h13 (fun e w3 hp => ?_); obtain ⟨rfl, hs3, kb3⟩ := hp)
        go_roundw
        case rel => exact ⟨k + 1, by go_num, by omega, hkb.trans kb3, _, hs3, by rw [heq, hsay]⟩
        case measure => simp [intOf]; omega
      · rw [if_neg hz] at hsay
        have hz1 := ne_zero hz
        go_wp2_with (go_at_call 13; refine Calls.mono h13 (fun e w3 hp => ?_); obtain ⟨rfl, hs3, kb3⟩ := hp)
        go_ret
        have hB := (hkb.trans kb3).to_below b1 hk1 b1.size
        have hno : sayO σ.ks ts = none := by rw [heq, hsay]
        refine ⟨?_, ⟨kb, ?_⟩, KB.of_below hB⟩
        · unfold sayB; rw [hno]; rfl
        · unfold sayS; rw [hno]; exact h.below hB
    · have hk1' : ¬ ((k : Nat) : Int) < ((ts.length : Nat) : Int) := by omega
      have hB := hkb.to_below b1 hk1 b1.size
      have hxr := h.below hB
      have c0r := hxr.cell0
      have f0r := hxr.free 0 (by omega)
      obtain ⟨q1, q2⟩ := hxr.setK hsk
      have hkl : k = ts.length := by omega
      subst hkl
      have hyes : sayO σ.ks ts = some ksk := by rw [heq, List.drop_length]; rfl
      go_wp2
      go_ret
      refine ⟨?_, ⟨k1, ?_⟩, (KB.of_below hB).trans q2⟩
      · unfold sayB; rw [hyes]; rfl
      · unfold sayS; rw [hyes]; exact q1
end Go.Proofs.YthigfakjiknhcaaDoorT
