/- Terms read off a text. -/
import Derived.Test.YthigfakjiknhcaaDoorTj
namespace Go.Proofs.YthigfakjiknhcaaDoorT
open Go Go.Proofs Go.RowKit
set_option linter.unusedSimpArgs false
set_option linter.unusedVariables false
/-- what the reader's method says -/
def TermOK (n : Nat) : Prop := ∀ (s : List UInt8) (w : World) (b : Nat), s.length < n → s.length ≤ 5000 → Rd w b s →
  Calls Tryd.prog 66 #[.pointer (some ⟨b, 0, none⟩)] w fun e w' => (∃ v, e = .returned (.tuple #[v, .int .i64 ((pT n s).2.1 : Nat)]) ∧ RO w' (pT n s).1 v) ∧ Rd w' b (pT n s).2.2 ∧ KB b w w'
theorem must_n {w : World} {b : Nat} {s : List UInt8} (c : UInt8) (k : Int) (hk : k = ((c.toNat : Nat) : Int)) (h : Rd w b s) : Calls Tryd.prog 85 #[.pointer (some ⟨b, 0, none⟩), .int .u8 k] w fun e w' => e = .returned (.int .i64 ((must c s).1 : Nat)) ∧ Rd w' b (must c s).2 ∧ KB b w w' := by rw [hk]; exact must_any c h
theorem ne_cases (k : Nat) : (k = 0 ∧ (((k : Nat) : Int) != 0) = false) ∨ (k ≠ 0 ∧ (((k : Nat) : Int) != 0) = true) := by
  by_cases h : k = 0
  · left; exact ⟨h, by rw [h]; rfl⟩
  · right; exact ⟨h, by rw [bne_iff_ne]; omega⟩
set_option maxHeartbeats 8000000 in
set_option maxRecDepth 1000000 in
theorem twoP {n : Nat} (ih : TermOK n) {w : World} {b : Nat} {s : List UInt8} (hn : s.length < n) (hl : s.length ≤ 5000) (h : Rd w b s) :
    Calls Tryd.prog 76 #[.pointer (some ⟨b, 0, none⟩), .int .u8 41, .func (.func 60) #[] #[]] w fun e w' => (∃ v, e = .returned (.tuple #[v, .int .i64 ((two (pT n) mkP 41 s).2.1 : Nat)]) ∧ RO w' (two (pT n) mkP 41 s).1 v) ∧ Rd w' b (two (pT n) mkP 41 s).2.2 ∧ KB b w w' := by
  have i1 := ih s w b hn hl h
  have l1 := pT_len n s
  have q1 := ok2_pT n s
  unfold two
  simp only
  generalize pT n s = A at *
  obtain ⟨a, ea, ra⟩ := A
  simp only at *
  rcases ne_cases ea with ⟨h1, z1⟩ | ⟨h1, z1⟩
  · rw [if_neg (by omega)]
    have l2 := must_len 32 ra
    have m1 : ∀ w, Rd w b ra → _ := fun w h => must_n (w := w) 32 32 rfl h
    generalize must 32 ra = M at *
    obtain ⟨em, rm1⟩ := M
    simp only at *
    rcases ne_cases em with ⟨h2, z2⟩ | ⟨h2, z2⟩
    · rw [if_neg (by omega)]
      have i2 : ∀ w, Rd w b rm1 → _ := fun w h => ih rm1 w b (by omega) (by omega) h
      have l3 := pT_len n rm1
      have q2 := ok2_pT n rm1
      generalize pT n rm1 = B at *
      obtain ⟨b', eb, rb⟩ := B
      simp only at *
      rcases ne_cases eb with ⟨h3, z3⟩ | ⟨h3, z3⟩
      · rw [if_neg (by omega)]
        have m2 : ∀ w, Rd w b rb → _ := fun w h => must_n (w := w) 41 41 rfl h
        generalize must 41 rb = M2 at *
        obtain ⟨em2, rm2⟩ := M2
        simp only at *
        rcases ne_cases em2 with ⟨h4, z4⟩ | ⟨h4, z4⟩
        · rw [if_neg (by omega)]
          go_enter Tryd.func76, Tryd.ntmps76
          go_wp2_with (go_at_call 66; refine Calls.mono i1 ?_)
          try simp only [and_imp]
          rintro e w1 ⟨v1, rfl, o1⟩ d1 k1
          go_wp2_with (go_at_call 85; refine Calls.mono (m1 _ d1) ?_)
          try simp only [and_imp]
          rintro e w2 rfl d2 k2
          go_wp2_with (go_at_call 66; refine Calls.mono (i2 _ d2) ?_)
          try simp only [and_imp]
          rintro e w3 ⟨v3, rfl, o3⟩ d3 k3
          go_wp2_with (go_at_call 85; refine Calls.mono (m2 _ d3) ?_)
          try simp only [and_imp]
          rintro e w4 rfl d4 k4
          have oa : RO w4 a v1 := ((o1.mono (d1.kt k2)).mono (d2.kt k3)).mono (d3.kt k4)
          have ob : RO w4 b' v3 := o3.mono (d3.kt k4)
          go_wp2_with (go_at_call 60; refine Calls.mono (pair_any oa ob q1.okO q2.okO) ?_)
          try simp only [and_imp]
          rintro e w5 ⟨v5, rfl, o5⟩ b5
          go_wp2
          go_ret2
          exact ⟨⟨v5, rfl, o5⟩, d4.below b5, (((k1.trans k2).trans k3).trans k4).trans (KB.of_below b5)⟩
        · rw [if_pos h4]
          go_enter Tryd.func76, Tryd.ntmps76
          go_wp2_with (go_at_call 66; refine Calls.mono i1 ?_)
          try simp only [and_imp]
          rintro e w1 ⟨v1, rfl, o1⟩ d1 k1
          go_wp2_with (go_at_call 85; refine Calls.mono (m1 _ d1) ?_)
          try simp only [and_imp]
          rintro e w2 rfl d2 k2
          go_wp2_with (go_at_call 66; refine Calls.mono (i2 _ d2) ?_)
          try simp only [and_imp]
          rintro e w3 ⟨v3, rfl, o3⟩ d3 k3
          go_wp2_with (go_at_call 85; refine Calls.mono (m2 _ d3) ?_)
          try simp only [and_imp]
          rintro e w4 rfl d4 k4
          go_wp2
          go_ret2
          exact ⟨⟨.nilIface, rfl, rfl⟩, d4, ((k1.trans k2).trans k3).trans k4⟩
      · rw [if_pos h3]
        go_enter Tryd.func76, Tryd.ntmps76
        go_wp2_with (go_at_call 66; refine Calls.mono i1 ?_)
        try simp only [and_imp]
        rintro e w1 ⟨v1, rfl, o1⟩ d1 k1
        go_wp2_with (go_at_call 85; refine Calls.mono (m1 _ d1) ?_)
        try simp only [and_imp]
        rintro e w2 rfl d2 k2
        go_wp2_with (go_at_call 66; refine Calls.mono (i2 _ d2) ?_)
        try simp only [and_imp]
        rintro e w3 ⟨v3, rfl, o3⟩ d3 k3
        go_wp2
        go_ret2
        exact ⟨⟨.nilIface, rfl, rfl⟩, d3, (k1.trans k2).trans k3⟩
    · rw [if_pos h2]
      go_enter Tryd.func76, Tryd.ntmps76
      go_wp2_with (go_at_call 66; refine Calls.mono i1 ?_)
      try simp only [and_imp]
      rintro e w1 ⟨v1, rfl, o1⟩ d1 k1
      go_wp2_with (go_at_call 85; refine Calls.mono (m1 _ d1) ?_)
      try simp only [and_imp]
      rintro e w2 rfl d2 k2
      go_wp2
      go_ret2
      exact ⟨⟨.nilIface, rfl, rfl⟩, d2, k1.trans k2⟩
  · rw [if_pos h1]
    go_enter Tryd.func76, Tryd.ntmps76
    go_wp2_with (go_at_call 66; refine Calls.mono i1 ?_)
    try simp only [and_imp]
    rintro e w1 ⟨v1, rfl, o1⟩ d1 k1
    go_wp2
    go_ret2
    exact ⟨⟨.nilIface, rfl, rfl⟩, d1, k1⟩
set_option maxHeartbeats 8000000 in
set_option maxRecDepth 1000000 in
theorem twoS {n : Nat} (ih : TermOK n) {w : World} {b : Nat} {s : List UInt8} (hn : s.length < n) (hl : s.length ≤ 5000) (h : Rd w b s) :
    Calls Tryd.prog 76 #[.pointer (some ⟨b, 0, none⟩), .int .u8 93, .func (.func 68) #[] #[]] w fun e w' => (∃ v, e = .returned (.tuple #[v, .int .i64 ((two (pT n) mkS 93 s).2.1 : Nat)]) ∧ RO w' (two (pT n) mkS 93 s).1 v) ∧ Rd w' b (two (pT n) mkS 93 s).2.2 ∧ KB b w w' := by
  have i1 := ih s w b hn hl h
  have l1 := pT_len n s
  have q1 := ok2_pT n s
  unfold two
  simp only
  generalize pT n s = A at *
  obtain ⟨a, ea, ra⟩ := A
  simp only at *
  rcases ne_cases ea with ⟨h1, z1⟩ | ⟨h1, z1⟩
  · rw [if_neg (by omega)]
    have l2 := must_len 32 ra
    have m1 : ∀ w, Rd w b ra → _ := fun w h => must_n (w := w) 32 32 rfl h
    generalize must 32 ra = M at *
    obtain ⟨em, rm1⟩ := M
    simp only at *
    rcases ne_cases em with ⟨h2, z2⟩ | ⟨h2, z2⟩
    · rw [if_neg (by omega)]
      have i2 : ∀ w, Rd w b rm1 → _ := fun w h => ih rm1 w b (by omega) (by omega) h
      have l3 := pT_len n rm1
      have q2 := ok2_pT n rm1
      generalize pT n rm1 = B at *
      obtain ⟨b', eb, rb⟩ := B
      simp only at *
      rcases ne_cases eb with ⟨h3, z3⟩ | ⟨h3, z3⟩
      · rw [if_neg (by omega)]
        have m2 : ∀ w, Rd w b rb → _ := fun w h => must_n (w := w) 93 93 rfl h
        generalize must 93 rb = M2 at *
        obtain ⟨em2, rm2⟩ := M2
        simp only at *
        rcases ne_cases em2 with ⟨h4, z4⟩ | ⟨h4, z4⟩
        · rw [if_neg (by omega)]
          go_enter Tryd.func76, Tryd.ntmps76
          go_wp2_with (go_at_call 66; refine Calls.mono i1 ?_)
          try simp only [and_imp]
          rintro e w1 ⟨v1, rfl, o1⟩ d1 k1
          go_wp2_with (go_at_call 85; refine Calls.mono (m1 _ d1) ?_)
          try simp only [and_imp]
          rintro e w2 rfl d2 k2
          go_wp2_with (go_at_call 66; refine Calls.mono (i2 _ d2) ?_)
          try simp only [and_imp]
          rintro e w3 ⟨v3, rfl, o3⟩ d3 k3
          go_wp2_with (go_at_call 85; refine Calls.mono (m2 _ d3) ?_)
          try simp only [and_imp]
          rintro e w4 rfl d4 k4
          have oa : RO w4 a v1 := ((o1.mono (d1.kt k2)).mono (d2.kt k3)).mono (d3.kt k4)
          have ob : RO w4 b' v3 := o3.mono (d3.kt k4)
          go_wp2_with (go_at_call 68; refine Calls.mono (lock_any oa ob q1.okO q2.okO) ?_)
          try simp only [and_imp]
          rintro e w5 ⟨v5, rfl, o5⟩ b5
          go_wp2
          go_ret2
          exact ⟨⟨v5, rfl, o5⟩, d4.below b5, (((k1.trans k2).trans k3).trans k4).trans (KB.of_below b5)⟩
        · rw [if_pos h4]
          go_enter Tryd.func76, Tryd.ntmps76
          go_wp2_with (go_at_call 66; refine Calls.mono i1 ?_)
          try simp only [and_imp]
          rintro e w1 ⟨v1, rfl, o1⟩ d1 k1
          go_wp2_with (go_at_call 85; refine Calls.mono (m1 _ d1) ?_)
          try simp only [and_imp]
          rintro e w2 rfl d2 k2
          go_wp2_with (go_at_call 66; refine Calls.mono (i2 _ d2) ?_)
          try simp only [and_imp]
          rintro e w3 ⟨v3, rfl, o3⟩ d3 k3
          go_wp2_with (go_at_call 85; refine Calls.mono (m2 _ d3) ?_)
          try simp only [and_imp]
          rintro e w4 rfl d4 k4
          go_wp2
          go_ret2
          exact ⟨⟨.nilIface, rfl, rfl⟩, d4, ((k1.trans k2).trans k3).trans k4⟩
      · rw [if_pos h3]
        go_enter Tryd.func76, Tryd.ntmps76
        go_wp2_with (go_at_call 66; refine Calls.mono i1 ?_)
        try simp only [and_imp]
        rintro e w1 ⟨v1, rfl, o1⟩ d1 k1
        go_wp2_with (go_at_call 85; refine Calls.mono (m1 _ d1) ?_)
        try simp only [and_imp]
        rintro e w2 rfl d2 k2
        go_wp2_with (go_at_call 66; refine Calls.mono (i2 _ d2) ?_)
        try simp only [and_imp]
        rintro e w3 ⟨v3, rfl, o3⟩ d3 k3
        go_wp2
        go_ret2
        exact ⟨⟨.nilIface, rfl, rfl⟩, d3, (k1.trans k2).trans k3⟩
    · rw [if_pos h2]
      go_enter Tryd.func76, Tryd.ntmps76
      go_wp2_with (go_at_call 66; refine Calls.mono i1 ?_)
      try simp only [and_imp]
      rintro e w1 ⟨v1, rfl, o1⟩ d1 k1
      go_wp2_with (go_at_call 85; refine Calls.mono (m1 _ d1) ?_)
      try simp only [and_imp]
      rintro e w2 rfl d2 k2
      go_wp2
      go_ret2
      exact ⟨⟨.nilIface, rfl, rfl⟩, d2, k1.trans k2⟩
  · rw [if_pos h1]
    go_enter Tryd.func76, Tryd.ntmps76
    go_wp2_with (go_at_call 66; refine Calls.mono i1 ?_)
    try simp only [and_imp]
    rintro e w1 ⟨v1, rfl, o1⟩ d1 k1
    go_wp2
    go_ret2
    exact ⟨⟨.nilIface, rfl, rfl⟩, d1, k1⟩
end Go.Proofs.YthigfakjiknhcaaDoorT
