/- Well-formed terms; the world's atoms, pairs, seals, hashes. -/
import Derived.Test.YthigfakjiknhcaaDoorTq
namespace Go.Proofs.YthigfakjiknhcaaDoorT
open Go Go.Proofs Go.RowKit
set_option linter.unusedSimpArgs false
set_option linter.unusedVariables false
/-- a term whose atoms may be -/
def Tm.wf : Tm → Prop
  | .atom s => atB s = true
  | .pair a b => a.wf ∧ b.wf
  | .hash a => a.wf
  | .lock k a => k.wf ∧ a.wf
theorem Tm.wf_len : ∀ {t : Tm}, t.wf → t.text.length ≤ 8 * t.size
  | .atom s, h => by
    simp only [Tm.wf, atB, Bool.and_eq_true, decide_eq_true_eq] at h
    simp only [Tm.text, Tm.size]; omega
  | .pair a b, h => by
    have h1 := wf_len h.1
    have h2 := wf_len h.2
    simp only [Tm.text, Tm.size, List.length_cons, List.length_append, List.length_nil]; omega
  | .hash a, h => by
    have h1 := wf_len (t := a) h
    simp only [Tm.text, Tm.size, List.length_cons]; omega
  | .lock a b, h => by
    have h1 := wf_len h.1
    have h2 := wf_len h.2
    simp only [Tm.text, Tm.size, List.length_cons, List.length_append, List.length_nil]; omega
/-- a term that may be -/
def good (t : Tm) : Prop := t.wf ∧ t.size ≤ 200 ∧ t.depth ≤ 40
def goodO (o : Option Tm) : Prop := ∀ t, o = some t → good t
theorem good.len {t : Tm} (h : good t) : t.text.length ≤ 50000 := by have := Tm.wf_len h.1; have := h.2.1; omega
theorem goodO.len {o : Option Tm} (h : goodO o) : ∀ t, o = some t → t.text.length ≤ 50000 := fun t ht => (h t ht).len
theorem goodO.okO {o : Option Tm} (h : goodO o) : okO o := fun t ht => ⟨by have := (h t ht).2.1; omega, by have := (h t ht).2.2; omega⟩
theorem goodO.of {o : Option Tm} (h2 : ok2 o) (hw : ∀ t, o = some t → t.wf) : goodO o := fun t ht => ⟨hw t ht, h2 t ht⟩
theorem good_none : goodO none := fun t h => by cases h
theorem good_P {a b : Option Tm} (ha : goodO a) (hb : goodO b) : goodO (mkP a b) := .of (ok2_P a b) fun t ht => by
  unfold mkP at ht
  split at ht
  · split at ht
    · rename_i x y h; cases ht; exact ⟨(ha x rfl).1, (hb y rfl).1⟩
    · cases ht
  · cases ht
theorem good_S {a b : Option Tm} (ha : goodO a) (hb : goodO b) : goodO (mkS a b) := .of (ok2_S a b) fun t ht => by
  unfold mkS at ht
  split at ht
  · split at ht
    · rename_i x y h; cases ht; exact ⟨(ha x rfl).1, (hb y rfl).1⟩
    · cases ht
  · cases ht
theorem good_H {a : Option Tm} (ha : goodO a) : goodO (mkH a) := .of (ok2_H a) fun t ht => by
  unfold mkH at ht
  split at ht
  · split at ht
    · rename_i x h; cases ht; exact (ha x rfl).1
    · cases ht
  · cases ht
theorem good_A (s : List UInt8) : goodO (mkA s) := .of (ok2_A s) fun t ht => by
  unfold mkA at ht
  split at ht
  · rename_i h; cases ht; exact h
  · cases ht
theorem good_two {p : List UInt8 → Option Tm × Nat × List UInt8} {mk : Option Tm → Option Tm → Option Tm} (hp : ∀ s, goodO (p s).1) (h : ∀ a b, goodO a → goodO b → goodO (mk a b)) (c : UInt8) (s : List UInt8) : goodO (two p mk c s).1 := by
  unfold two
  simp only
  split
  · exact good_none
  split
  · exact good_none
  split
  · exact good_none
  split
  · exact good_none
  · exact h _ _ (hp _) (hp _)
theorem good_pT : ∀ (n : Nat) (s : List UInt8), goodO (pT n s).1
  | 0, s => good_none
  | _ + 1, [] => good_none
  | n + 1, c :: r => by
    unfold pT
    split
    · exact good_two (good_pT n) (fun _ _ => good_P) _ _
    split
    · exact good_two (good_pT n) (fun _ _ => good_S) _ _
    split
    · split
      · exact good_none
      · exact good_H (good_pT n _)
    · exact good_A _
theorem good_parse (s : List UInt8) : goodO (parse s).1 := by
  unfold parse
  split
  · exact good_none
  simp only
  split
  · exact good_none
  split
  · exact good_none
  · exact good_pT _ _
/-! ### numbers -/
/-- a digit -/
def dg (n : Nat) : UInt8 := UInt8.ofNat (48 + n)
set_option maxHeartbeats 8000000 in
set_option maxRecDepth 1000000 in
theorem small_any (n : Nat) (hn : n < 10) (w : World) : Calls Tryd.prog 81 #[.int .i64 (n : Nat)] w fun e w' => e = .returned (str [dg n]) ∧ w' = w := by
  match n, hn with
  | 0, _ | 1, _ | 2, _ | 3, _ | 4, _ | 5, _ | 6, _ | 7, _ | 8, _ | 9, _ =>
    go_enter Tryd.func81, Tryd.ntmps81
    go_wp2
    go_ret
    exact ⟨rfl, rfl⟩
set_option maxHeartbeats 8000000 in
set_option maxRecDepth 1000000 in
theorem itoa_any (n : Nat) (hn : n < 10) (w : World) : Calls Tryd.prog 55 #[.int .i64 (n : Nat)] w fun e w' => e = .returned (str [dg n]) ∧ w' = w := by
  have h81 := small_any n hn w
  generalize dg n = d at *
  have h75 : Calls Tryd.prog 75 #[.int .i64 (n : Nat), .int .i64 10] w fun e w' => e = .returned (str [d]) ∧ w' = w := by
    have h1 : (0 : Int) ≤ ((n : Nat) : Int) := by omega
    have h2 : ((n : Nat) : Int) < 100 := by omega
    go_enter Tryd.func75, Tryd.ntmps75
    go_wp2_with (go_at_call 81; refine Calls.mono h81 (fun e w1 hp => ?_); obtain ⟨rfl, rfl⟩ := hp)
    go_ret
    exact ⟨rfl, rfl⟩
  have h65 : Calls Tryd.prog 65 #[.int .i64 (n : Nat)] w fun e w' => e = .returned (str [d]) ∧ w' = w := by
    go_enter Tryd.func65, Tryd.ntmps65
    go_wp2_with (go_at_call 75; refine Calls.mono h75 (fun e w1 hp => ?_); obtain ⟨rfl, rfl⟩ := hp)
    go_ret
    exact ⟨rfl, rfl⟩
  go_enter Tryd.func55, Tryd.ntmps55
  go_wp2_with (go_at_call 65; refine Calls.mono h65 (fun e w1 hp => ?_); obtain ⟨rfl, rfl⟩ := hp)
  go_ret
  exact ⟨rfl, rfl⟩
theorem nm_two (c d : UInt8) (h1 : nmB 0 c = true) (h2 : nmB 1 d = true) : nm [c, d] = 2 := by
  show nmFrom 0 [c, d] = 2
  simp [nmFrom, h1, h2]
theorem dg_isD (n : Nat) (hn : n < 10) : nmB 1 (dg n) = true := by
  match n, hn with
  | 0, _ | 1, _ | 2, _ | 3, _ | 4, _ | 5, _ | 6, _ | 7, _ | 8, _ | 9, _ => rfl
theorem atB_two (c d : UInt8) (h1 : nmB 0 c = true) (h2 : nmB 1 d = true) : atB [c, d] = true := by
  unfold atB
  rw [nm_two c d h1 h2]; rfl
theorem good_atom {s : List UInt8} (h : atB s = true) : good (.atom s) := ⟨h, by simp [Tm.size], by simp [Tm.depth]⟩
/-- an atom of a letter and a number -/
def atT (c : UInt8) (n : Nat) : Tm := .atom [c, dg n]
theorem atT_atB (c : UInt8) (n : Nat) (hc : nmB 0 c = true) (hn : n < 10) : atB [c, dg n] = true := atB_two c _ hc (dg_isD n hn)
theorem atT_good (c : UInt8) (n : Nat) (hc : nmB 0 c = true) (hn : n < 10) : good (atT c n) := good_atom (atT_atB c n hc hn)
theorem RT_atom {w : World} {s : List UInt8} {v : Value} (h : RT w (.atom s) v) : v = .iface 62 (str s) := by cases h; rfl
set_option maxHeartbeats 8000000 in
set_option maxRecDepth 1000000 in
theorem atom35_any (c : UInt8) (n : Nat) (hc : nmB 0 c = true) (hn : n < 10) (w : World) : Calls Tryd.prog 35 #[str [c], .int .i64 (n : Nat)] w fun e w' => (∃ v, e = .returned v ∧ RO w' (some (atT c n)) v) ∧ w' = w := by
  have hi := itoa_any n hn w
  have hB := atT_atB c n hc hn
  unfold atT
  generalize dg n = d at *
  have hcat : ∀ w : World, (Op.stringOp .add ⟨[c].toArray⟩ ⟨[d].toArray⟩).run Tryd.prog w = .ok (str [c, d]) w := cat_run [c] [d] (by simp)
  have hat := atom_any (w := w) [c, d] (by simp)
  have hmk : mkA [c, d] = some (.atom [c, d]) := by unfold mkA; rw [hB]; rfl
  rw [hmk] at hat
  go_enter Tryd.func35, Tryd.ntmps35
  go_wp2_with (go_at_call 55; refine Calls.mono hi (fun e w1 hp => ?_); obtain ⟨rfl, rfl⟩ := hp)
  go_wp2_with (go_at_call 12; refine Calls.mono hat (fun e w1 hp => ?_); obtain ⟨⟨v, rfl, hv⟩, rfl⟩ := hp; have hv2 := RT_atom hv; subst hv2)
  go_ret
  exact ⟨⟨_, rfl, hv⟩, rfl⟩
end Go.Proofs.YthigfakjiknhcaaDoorT
