/- split: a term, its pairs taken apart, into a set. -/
import Derived.Test.YthigfakjiknhcaaDoorTm
namespace Go.Proofs.YthigfakjiknhcaaDoorT
open Go Go.Proofs Go.RowKit
set_option linter.unusedSimpArgs false
set_option linter.unusedVariables false
theorem MB.kt {w w' : World} {b : Nat} {ks : List (List UInt8)} (h : MB w b ks) (k : KB b w w') : KT w w' := ⟨k.os, k.tape, k.output, k.size, fun i cs T fr hi ht => by
  have hlt := (Array.getElem?_eq_some_iff.1 hi).1
  by_cases e : i = b
  · subst e
    obtain ⟨es, clock, hb, _⟩ := h
    rw [hb] at hi
    cases hi
  · rw [k.block i hlt e]; exact hi⟩
theorem MB.drewN {w : World} {b : Nat} {ks : List (List UInt8)} (h : MB w b ks) (n : Nat) : MB (w.drewN n) b ks := h
theorem MB.below {w w' : World} {b : Nat} {ks : List (List UInt8)} (h : MB w b ks) (hb : Below w.heap.size w w') : MB w' b ks := by
  obtain ⟨es, clock, h1, h2⟩ := h
  exact ⟨es, clock, by rw [hb.block b (Array.getElem?_eq_some_iff.1 h1).1]; exact h1, h2⟩
theorem MB.lt {w : World} {b : Nat} {ks : List (List UInt8)} (h : MB w b ks) : b < w.heap.size := by
  obtain ⟨es, clock, h1, h2⟩ := h
  exact (Array.getElem?_eq_some_iff.1 h1).1
def splitS (ks : List (List UInt8)) : Tm → List (List UInt8)
  | .pair a b => splitS (splitS ks a) b
  | .atom s => put ks s
  | .hash a => put ks (Tm.hash a).text
  | .lock k a => put ks (Tm.lock k a).text
theorem drew_kb {b : Nat} {w w' : World} {n : Nat} (h : KB b (w.drewN n) w') : KB b w w' := ⟨h.os, h.tape, h.output, h.size, h.block⟩
set_option maxHeartbeats 8000000 in
set_option maxRecDepth 1000000 in
/-- what is no pair goes in whole -/
theorem split_leaf {t : Tm} (hk : t.kind ≠ 2) {w : World} {b : Nat} {ks : List (List UInt8)} {v : Value} (hl : t.text.length ≤ 50000) (h : RT w t v) (hm : MB w b ks) :
    Calls Tryd.prog 31 #[.map (some b), v] w fun e w' => e = .returned (.tuple #[]) ∧ MB w' b (put ks t.text) ∧ KB b w w' := by
  obtain ⟨D, u, rfl⟩ := h.shape
  have hne : (((t.kind : Nat) : Int) != 2) = true := by rw [bne_iff_ne]; omega
  have h52 := kind_any h
  generalize ((t.kind : Nat) : Int) = kd at *
  go_enter Tryd.func31, Tryd.ntmps31
  go_wp2_with (go_at_call 52; refine Calls.mono h52 (fun e w1 hp => ?_); obtain ⟨rfl, rfl⟩ := hp)
  go_wp2_with (go_at_call 45; refine Calls.mono (text_any t _ _ hl h) (fun e w2 hp => ?_); obtain ⟨rfl, n, rfl⟩ := hp; obtain ⟨w3, p1, p2, p3⟩ := put_any (hm.drewN n) t.text)
  refine bodyPost_ret (results_none rfl _ _ _) rfl ?_
  exact ⟨rfl, p2, drew_kb p3⟩
/-- what split says of a term -/
def SplitOK (t : Tm) : Prop := ∀ (w : World) (b : Nat) (ks : List (List UInt8)) (v : Value), t.text.length ≤ 50000 → RT w t v → MB w b ks →
  Calls Tryd.prog 31 #[.map (some b), v] w fun e w' => e = .returned (.tuple #[]) ∧ MB w' b (splitS ks t) ∧ KB b w w'
theorem RL_two {w : World} {p q : Tm} {x : Value} (h : RL w [p, q] x) : ∃ (r : Nat) (y z : Value), x = .slice (some ⟨r, 0, none⟩) 2 2 ∧ w.cell? ⟨r, 0, none⟩ = some y ∧ RT w p y ∧ w.cell? ⟨r, 1, none⟩ = some z ∧ RT w q z := by
  rcases h with ⟨_, h0⟩ | ⟨r, h1, h2⟩
  · cases h0
  · obtain ⟨y, a1, a2⟩ := h2 0 p rfl
    obtain ⟨z, b1, b2⟩ := h2 1 q rfl
    exact ⟨r, y, z, h1, a1, a2, b1, b2⟩
def stage (ks : List (List UInt8)) (p q : Tm) : Nat → List (List UInt8)
  | 0 => ks
  | 1 => splitS ks p
  | _ => splitS (splitS ks p) q
set_option maxHeartbeats 8000000 in
set_option maxRecDepth 1000000 in
theorem split_pair {p q : Tm} (ip : SplitOK p) (iq : SplitOK q) : SplitOK (.pair p q) := by
  intro w b ks v hl h hm
  obtain ⟨D, u, rfl⟩ := h.shape
  have h52 : Calls Tryd.prog 52 #[.iface D u] w fun e w' => e = .returned (.int .i64 2) ∧ w' = w := kind_any h
  have h53 := parts_any h
  simp only [Tm.text, List.length_cons, List.length_append, List.length_nil] at hl
  go_enter Tryd.func31, Tryd.ntmps31
  go_wp2_with (go_at_call 52; refine Calls.mono h52 (fun e w1 hp => ?_); obtain ⟨rfl, rfl⟩ := hp)
  go_wp2_with (go_at_call 53; refine Calls.mono h53 (fun e w2 hp => ?_); obtain ⟨⟨x, rfl, hL⟩, hb⟩ := hp; obtain ⟨r, y, z, rfl, q1, q2, q3, q4⟩ := RL_two hL)
  have hm2 := hm.below hb
  go_loopw [15] (fun vi wr => ∃ k : Nat, vi = .int .i64 k ∧ k ≤ 2 ∧ MB wr b (stage ks p q k) ∧ KB b w2 wr) (fun vi _ => 2 - (intOf vi).toNat)
  case atStart => exact ⟨0, rfl, by omega, hm2, KB.refl _ _⟩
  case round =>
    obtain ⟨k, rfl, hk, hmr, hkr⟩ := hrel
    have kt := hm2.kt hkr
    have hrb : r ≠ b := by
      intro e
      subst e
      obtain ⟨es, clock, g1, _⟩ := hm2
      simp [World.cell?, g1] at q1
    have hr : r < w2.heap.size := by
      rcases Nat.lt_or_ge r w2.heap.size with hr | hr
      · exact hr
      · simp [World.cell?, Array.getElem?_eq_none hr] at q1
    have cc : ∀ j, wr.cell? ⟨r, j, none⟩ = w2.cell? ⟨r, j, none⟩ := fun j => World.cell?_of_block (w := w2) (hkr.block r hr hrb)
    rcases (show k = 0 ∨ k = 1 ∨ k = 2 by omega) with rfl | rfl | rfl
    · have c0 : wr.cell? ⟨r, 0, none⟩ = some y := (cc 0).trans q1
      go_wp2_with (go_at_call 31; refine Calls.mono (ip wr b _ _ (by omega) (q2.mono kt) hmr) (fun e w3 hp => ?_); obtain ⟨rfl, m3, k3⟩ := hp)
      go_roundw
      case rel => exact ⟨1, by go_num, by omega, m3, hkr.trans k3⟩
      case measure => simp [intOf]
    · have c1 : wr.cell? ⟨r, 1, none⟩ = some z := (cc 1).trans q3
      go_wp2_with (go_at_call 31; refine Calls.mono (iq wr b _ _ (by omega) (q4.mono kt) hmr) (fun e w3 hp => ?_); obtain ⟨rfl, m3, k3⟩ := hp)
      go_roundw
      case rel => exact ⟨2, by go_num, by omega, m3, hkr.trans k3⟩
      case measure => simp [intOf]
    · go_wp2
      go_end0
      exact ⟨rfl, hmr, (KB.of_below hb).trans hkr⟩
theorem split_any : ∀ t, SplitOK t
  | .pair a b => split_pair (split_any a) (split_any b)
  | .atom s => fun w b ks v hl h hm => split_leaf (t := .atom s) (by simp [Tm.kind]) hl h hm
  | .hash a => fun w b ks v hl h hm => split_leaf (t := .hash a) (by simp [Tm.kind]) hl h hm
  | .lock k a => fun w b ks v hl h hm => split_leaf (t := .lock k a) (by simp [Tm.kind]) hl h hm
end Go.Proofs.YthigfakjiknhcaaDoorT
