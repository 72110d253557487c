/- A term of a text. -/
import Derived.Test.YthigfakjiknhcaaDoorTk
namespace Go.Proofs.YthigfakjiknhcaaDoorT
open Go Go.Proofs Go.RowKit
set_option linter.unusedSimpArgs false
set_option linter.unusedVariables false
theorem ne40 {c : UInt8} (h : ¬ c = 40) : (((c.toNat : Nat) : Int) == 40) = false := by
  rw [beq_eq_false_iff_ne]; intro e
  have : c.toNat = 40 := by omega
  exact h (UInt8.toNat_inj.1 this)
theorem ne91 {c : UInt8} (h : ¬ c = 91) : (((c.toNat : Nat) : Int) == 91) = false := by
  rw [beq_eq_false_iff_ne]; intro e
  have : c.toNat = 91 := by omega
  exact h (UInt8.toNat_inj.1 this)
theorem ne35 {c : UInt8} (h : ¬ c = 35) : (((c.toNat : Nat) : Int) == 35) = false := by
  rw [beq_eq_false_iff_ne]; intro e
  have : c.toNat = 35 := by omega
  exact h (UInt8.toNat_inj.1 this)
set_option maxHeartbeats 8000000 in
set_option maxRecDepth 1000000 in
theorem term_step {n : Nat} (ih : TermOK n) : TermOK (n + 1) := by
  intro s w b hn hl h
  have c0 := h.cell
  have f0 := h.free
  cases s with
  | nil =>
    go_enter Tryd.func66, Tryd.ntmps66
    go_wp2
    go_ret2
    exact ⟨⟨.nilIface, rfl, rfl⟩, h, KB.refl _ _⟩
  | cons c r =>
    simp only [List.length_cons] at hn hl
    have hb : ∀ h, (⟨(c :: r).toArray⟩ : ByteArray)[0]'h = c := fun h => rfl
    have hp : 0 < (c :: r).length := by simp
    have he : (c :: r).isEmpty = false := rfl
    have hset := h.set r
    have hdr := ext_drop (c :: r) 1
    rw [show (c :: r).drop 1 = r from rfl] at hdr
    unfold pT
    by_cases h1 : c = 40
    · have t2 := twoP ih (by omega) (by omega) hset.1
      rw [if_pos h1]
      generalize hs : c :: r = s at *
      go_enter Tryd.func66, Tryd.ntmps66
      go_wp2_with (go_at_call 76; refine Calls.mono t2 ?_)
      try simp only [and_imp]
      rintro e w1 ⟨v1, rfl, o1⟩ d1 k1
      go_wp2
      go_ret2
      exact ⟨⟨v1, rfl, o1⟩, d1, hset.2.trans k1⟩
    · have z1 := ne40 h1
      rw [if_neg h1]
      by_cases h2 : c = 91
      · have t2 := twoS ih (by omega) (by omega) hset.1
        rw [if_pos h2]
        generalize hs : c :: r = s at *
        go_enter Tryd.func66, Tryd.ntmps66
        go_wp2_with (go_at_call 76; refine Calls.mono t2 ?_)
        try simp only [and_imp]
        rintro e w1 ⟨v1, rfl, o1⟩ d1 k1
        go_wp2
        go_ret2
        exact ⟨⟨v1, rfl, o1⟩, d1, hset.2.trans k1⟩
      · have z2 := ne91 h2
        rw [if_neg h2]
        by_cases h3 : c = 35
        · have i1 := ih r _ b (by omega) (by omega) hset.1
          have q1 := ok2_pT n r
          rw [if_pos h3]
          generalize pT n r = A at *
          obtain ⟨a, ea, ra⟩ := A
          simp only at *
          generalize hs : c :: r = s at *
          rcases ne_cases ea with ⟨h4, z4⟩ | ⟨h4, z4⟩
          · rw [if_neg (by omega)]
            go_enter Tryd.func66, Tryd.ntmps66
            go_wp2_with (go_at_call 66; refine Calls.mono i1 ?_)
            try simp only [and_imp]
            rintro e w1 ⟨v1, rfl, o1⟩ d1 k1
            go_wp2_with (go_at_call 70; refine Calls.mono (hash_any o1 q1.okO) ?_)
            try simp only [and_imp]
            rintro e w2 ⟨v2, rfl, o2⟩ b2
            go_wp2
            go_ret2
            exact ⟨⟨v2, rfl, o2⟩, d1.below b2, (hset.2.trans k1).trans (KB.of_below b2)⟩
          · rw [if_pos h4]
            go_enter Tryd.func66, Tryd.ntmps66
            go_wp2_with (go_at_call 66; refine Calls.mono i1 ?_)
            try simp only [and_imp]
            rintro e w1 ⟨v1, rfl, o1⟩ d1 k1
            go_wp2
            go_ret2
            exact ⟨⟨.nilIface, rfl, rfl⟩, d1, hset.2.trans k1⟩
        · have z3 := ne35 h3
          rw [if_neg h3]
          have hls : (c :: r).length ≤ 5000 := by simp; omega
          generalize hs : c :: r = s at *
          have hk := nm_le s
          have hn1 := name_any (w := w) s (by omega)
          have htk := ext_take s (nm s) hk
          have hdk := ext_drop s (nm s)
          have hat := atom_any (w := w) (s.take (nm s)) (by rw [List.length_take]; omega)
          have hset2 := h.set (s.drop (nm s))
          generalize nm s = k at *
          go_enter Tryd.func66, Tryd.ntmps66
          go_wp2_with (go_at_call 28; refine Calls.mono hn1 ?_)
          try simp only [and_imp]
          try rintro e w1 rfl rfl
          go_wp2_with (go_at_call 12; refine Calls.mono hat ?_)
          rintro e w2 ⟨⟨v2, rfl, o2⟩, rfl⟩
          go_wp2
          go_ret2
          exact ⟨⟨v2, rfl, o2.mono (h.kt hset2.2)⟩, hset2.1, hset2.2⟩
theorem term_any : ∀ n, TermOK n
  | 0 => fun s w b hn => absurd hn (Nat.not_lt_zero _)
  | n + 1 => term_step (term_any n)
/-! ### Parse -/
/-- the term of a text, and the error -/
def parse (s : List UInt8) : Option Tm × Nat :=
  if 2000 < s.length then (none, 8) else
  let r := pT (s.length + 1) s
  if r.2.1 ≠ 0 then (none, r.2.1) else if r.2.2 ≠ [] then (none, 3) else (r.1, 0)
theorem ok2_parse (s : List UInt8) : ok2 (parse s).1 := by
  unfold parse
  split
  · exact ok2_none
  simp only
  split
  · exact ok2_none
  split
  · exact ok2_none
  · exact ok2_pT _ _
set_option maxHeartbeats 8000000 in
set_option maxRecDepth 1000000 in
theorem parse_any {w : World} (s : List UInt8) (hl : s.length ≤ 100000) : Calls Tryd.prog 57 #[str s] w fun e w' => (∃ v, e = .returned (.tuple #[v, .int .i64 ((parse s).2 : Nat)]) ∧ RO w' (parse s).1 v) ∧ Below w.heap.size w w' := by
  unfold parse
  by_cases hbig : 2000 < s.length
  · have hb1 : (2000 : Int) < ((s.length : Nat) : Int) := by omega
    rw [if_pos hbig]
    go_enter Tryd.func57, Tryd.ntmps57
    go_wp2
    go_ret2
    exact ⟨⟨.nilIface, rfl, rfl⟩, Below.refl _ _⟩
  · have hb1 : ¬ (2000 : Int) < ((s.length : Nat) : Int) := by omega
    rw [if_neg hbig]
    have hR : Rd (w.alloc (.cells #[str s] 107)) w.heap.size s := by
      unfold Rd
      show (w.heap.push _)[w.heap.size]? = _
      simp
    have i1 := term_any (s.length + 1) s _ _ (by omega) (by omega) hR
    have hA := al_below w (.cells #[str s] 107)
    generalize pT (s.length + 1) s = R at *
    obtain ⟨a, ea, ra⟩ := R
    simp only at *
    have back : ∀ w1, KB w.heap.size (w.alloc (.cells #[str s] 107)) w1 → Below w.heap.size w w1 := fun w1 k1 =>
      ⟨k1.os.trans hA.os, k1.tape.trans hA.tape, k1.output.trans hA.output, Nat.le_trans hA.size k1.size, fun k hk => (k1.block k (Nat.lt_of_lt_of_le hk hA.size) (by omega)).trans (hA.block k hk)⟩
    rcases ne_cases ea with ⟨h4, z4⟩ | ⟨h4, z4⟩
    · rw [if_neg (by omega)]
      by_cases hr : ra = []
      · rw [if_neg (by simp [hr])]
        subst hr
        go_enter Tryd.func57, Tryd.ntmps57
        go_wp2_with (go_at_call 66; refine Calls.mono i1 (fun e w1 hp => ?_); obtain ⟨⟨v1, rfl, o1⟩, d1, k1⟩ := hp; have c1 := d1.cell)
        go_wp2
        go_ret2
        exact ⟨⟨v1, rfl, o1⟩, back _ k1⟩
      · rw [if_pos hr]
        have hne : ((⟨ra.toArray⟩ : ByteArray) == ⟨#[]⟩) = false := by
          cases ra with
          | nil => exact absurd rfl hr
          | cons x r => rfl
        have hie : ra.isEmpty = false := by cases ra with | nil => exact absurd rfl hr | cons x r => rfl
        go_enter Tryd.func57, Tryd.ntmps57
        go_wp2_with (go_at_call 66; refine Calls.mono i1 (fun e w1 hp => ?_); obtain ⟨⟨v1, rfl, o1⟩, d1, k1⟩ := hp; have c1 := d1.cell)
        go_wp2
        go_ret2
        exact ⟨⟨.nilIface, rfl, rfl⟩, back _ k1⟩
    · rw [if_pos h4]
      go_enter Tryd.func57, Tryd.ntmps57
      go_wp2_with (go_at_call 66; refine Calls.mono i1 (fun e w1 hp => ?_); obtain ⟨⟨v1, rfl, o1⟩, d1, k1⟩ := hp; have c1 := d1.cell)
      go_wp2
      go_ret2
      exact ⟨⟨.nilIface, rfl, rfl⟩, back _ k1⟩
end Go.Proofs.YthigfakjiknhcaaDoorT
