/- name: how many bytes a text begins with that an atom may have. -/
import Derived.Test.YthigfakjiknhcaaDoorTg
namespace Go.Proofs.YthigfakjiknhcaaDoorT
open Go Go.Proofs Go.RowKit
set_option linter.unusedSimpArgs false
set_option linter.unusedVariables false
def isL (c : UInt8) : Bool := decide (97 ≤ c.toNat) && decide (c.toNat ≤ 122)
def isD (c : UInt8) : Bool := decide (48 ≤ c.toNat) && decide (c.toNat ≤ 57)
/-- a byte of a name at a place -/
def nmB (k : Nat) (c : UInt8) : Bool := isL c || (decide (0 < k) && isD c)
def nmFrom : Nat → List UInt8 → Nat
  | _, [] => 0
  | k, c :: r => if nmB k c then 1 + nmFrom (k + 1) r else 0
def nm (s : List UInt8) : Nat := nmFrom 0 s
theorem nmFrom_le : ∀ (k : Nat) (s : List UInt8), nmFrom k s ≤ s.length
  | _, [] => Nat.le_refl _
  | k, c :: r => by
    unfold nmFrom
    split
    · have := nmFrom_le (k + 1) r; simp; omega
    · omega
theorem nm_le (s : List UInt8) : nm s ≤ s.length := nmFrom_le 0 s
theorem nmFrom_stop {k : Nat} {s : List UInt8} (h : ∀ c, s[0]? = some c → nmB k c = false) : nmFrom k s = 0 := by
  cases s with
  | nil => rfl
  | cons c r => unfold nmFrom; rw [h c rfl]; rfl
set_option maxHeartbeats 4000000 in
set_option maxRecDepth 1000000 in
theorem isL_any {w : World} (c : UInt8) : Calls Tryd.prog 49 #[.int .u8 (c.toNat : Nat)] w fun e w' => e = .returned (.bool (isL c)) ∧ w' = w := by
  unfold isL
  by_cases h1 : (97 : Int) ≤ ((c.toNat : Nat) : Int)
  · by_cases h2 : ((c.toNat : Nat) : Int) ≤ 122
    · go_enter Tryd.func49, Tryd.ntmps49
      go_wp2
      go_ret
      exact ⟨by rw [decide_eq_true (show 97 ≤ c.toNat by omega), decide_eq_true (show c.toNat ≤ 122 by omega)]; rfl, rfl⟩
    · go_enter Tryd.func49, Tryd.ntmps49
      go_wp2
      go_ret
      exact ⟨by rw [decide_eq_false (show ¬ c.toNat ≤ 122 by omega), Bool.and_false]; rfl, rfl⟩
  · go_enter Tryd.func49, Tryd.ntmps49
    go_wp2
    go_ret
    exact ⟨by rw [decide_eq_false (show ¬ 97 ≤ c.toNat by omega), Bool.false_and]; rfl, rfl⟩
set_option maxHeartbeats 4000000 in
set_option maxRecDepth 1000000 in
theorem isD_any {w : World} (c : UInt8) : Calls Tryd.prog 50 #[.int .u8 (c.toNat : Nat)] w fun e w' => e = .returned (.bool (isD c)) ∧ w' = w := by
  unfold isD
  by_cases h1 : (48 : Int) ≤ ((c.toNat : Nat) : Int)
  · by_cases h2 : ((c.toNat : Nat) : Int) ≤ 57
    · go_enter Tryd.func50, Tryd.ntmps50
      go_wp2
      go_ret
      exact ⟨by rw [decide_eq_true (show 48 ≤ c.toNat by omega), decide_eq_true (show c.toNat ≤ 57 by omega)]; rfl, rfl⟩
    · go_enter Tryd.func50, Tryd.ntmps50
      go_wp2
      go_ret
      exact ⟨by rw [decide_eq_false (show ¬ c.toNat ≤ 57 by omega), Bool.and_false]; rfl, rfl⟩
  · go_enter Tryd.func50, Tryd.ntmps50
    go_wp2
    go_ret
    exact ⟨by rw [decide_eq_false (show ¬ 48 ≤ c.toNat by omega), Bool.false_and]; rfl, rfl⟩
set_option maxHeartbeats 8000000 in
set_option maxRecDepth 1000000 in
theorem name_any {w : World} (s : List UInt8) (hl : s.length ≤ 1000000) : Calls Tryd.prog 28 #[str s] w fun e w' => e = .returned (.int .i64 (nm s : Nat)) ∧ w' = w := by
  go_enter Tryd.func28, Tryd.ntmps28
  go_wp2
  go_loopw [3] (fun vn wr => ∃ k : Nat, vn = .int .i64 k ∧ k ≤ s.length ∧ k + nmFrom k (s.drop k) = nm s ∧ w = wr) (fun vn _ => s.length - (intOf vn).toNat)
  case atStart => exact ⟨0, rfl, Nat.zero_le _, by simp [nm], rfl⟩
  case round =>
    obtain ⟨k, rfl, hk, hnm, rfl⟩ := hrel
    by_cases hlt : k < s.length
    · have hk1 : ((k : Nat) : Int) < ((s.length : Nat) : Int) := by omega
      have hd := List.drop_eq_getElem_cons hlt
      have hg := List.getElem?_eq_getElem hlt
      rw [hd] at hnm
      have hb : ∀ h, (⟨s.toArray⟩ : ByteArray)[k]'h = s[k] := fun h => rfl
      unfold nmFrom at hnm
      have fin : nmB k s[k] = true → k + 1 + nmFrom (k + 1) (s.drop (k + 1)) = nm s := fun h => by rw [if_pos h] at hnm; omega
      have fno : nmB k s[k] = false → k = nm s := fun h => by rw [h] at hnm; simpa using hnm
      cases hL : isL s[k]
      · go_wp2_with (go_at_call 49; refine (isL_any s[k]).mono ?_)
        try simp only [and_imp]
        rintro e w1 rfl rfl
        rw [hL]
        by_cases h0 : 0 < k
        · have h01 : (0 : Int) < ((k : Nat) : Int) := by omega
          cases hD : isD s[k]
          · go_wp2_with (go_at_call 50; refine (isD_any s[k]).mono ?_)
            try simp only [and_imp]
            rintro e w1 rfl rfl
            rw [hD]
            go_wp2
            go_ret
            have := fno (by unfold nmB; rw [hL, hD, Bool.and_false]; rfl)
            subst this
            exact ⟨rfl, rfl⟩
          · go_wp2_with (go_at_call 50; refine (isD_any s[k]).mono ?_)
            try simp only [and_imp]
            rintro e w1 rfl rfl
            rw [hD]
            go_wp2
            go_roundw
            case rel => exact ⟨k + 1, by go_num, by omega, fin (by unfold nmB; rw [hD, decide_eq_true h0]; simp), by first | rfl | trivial⟩
            case measure => simp [intOf]; omega
        · have h01 : ¬ (0 : Int) < ((k : Nat) : Int) := by omega
          go_wp2
          go_ret
          have := fno (by unfold nmB; rw [hL, decide_eq_false h0]; rfl)
          subst this
          exact ⟨rfl, rfl⟩
      · go_wp2_with (go_at_call 49; refine (isL_any s[k]).mono ?_)
        try simp only [and_imp]
        rintro e w1 rfl rfl
        rw [hL]
        go_wp2
        go_roundw
        case rel => exact ⟨k + 1, by go_num, by omega, fin (by unfold nmB; rw [hL]; rfl), by first | rfl | trivial⟩
        case measure => simp [intOf]; omega
    · have hk1 : ¬ ((k : Nat) : Int) < ((s.length : Nat) : Int) := by omega
      go_wp2
      go_ret
      have hkl : k = s.length := by omega
      rw [List.drop_of_length_le (by omega)] at hnm
      have : k = nm s := by simpa [nmFrom] using hnm
      subst this
      exact ⟨rfl, rfl⟩
end Go.Proofs.YthigfakjiknhcaaDoorT
