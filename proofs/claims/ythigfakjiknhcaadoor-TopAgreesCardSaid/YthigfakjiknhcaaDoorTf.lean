/- room: whether a term of some others may be. -/
import Derived.Test.YthigfakjiknhcaaDoorTe
namespace Go.Proofs.YthigfakjiknhcaaDoorT
open Go Go.Proofs Go.RowKit
set_option linter.unusedSimpArgs false
set_option linter.unusedVariables false
/-- terms, or none, in a row -/
def RLO (w : World) (ts : List (Option Tm)) (r : Nat) : Prop := ∀ (j : Nat) (t : Option Tm), ts[j]? = some t → ∃ x, w.cell? ⟨r, j, none⟩ = some x ∧ RO w t x
theorem RLO.below {w w' : World} {ts : List (Option Tm)} {r : Nat} (h : RLO w ts r) (hb : Below w.heap.size w w') : RLO w' ts r := fun j t hj => by
  obtain ⟨x, h3, h4⟩ := h j t hj
  have hr : r < w.heap.size := by
    rcases Nat.lt_or_ge r w.heap.size with hr | hr
    · exact hr
    · simp [World.cell?, Array.getElem?_eq_none hr] at h3
  exact ⟨x, by rw [hb.cell (p := ⟨r, j, none⟩) hr]; exact h3, h4.mono (KT.of_below hb)⟩
def sumS : List (Option Tm) → Nat
  | [] => 0
  | none :: r => sumS r
  | some t :: r => t.size + sumS r
theorem sumS_app : ∀ (l r : List (Option Tm)), sumS (l ++ r) = sumS l + sumS r
  | [], r => by simp [sumS]
  | none :: l, r => by simp only [List.cons_append, sumS, sumS_app l r]
  | some t :: l, r => by simp only [List.cons_append, sumS, sumS_app l r]; omega
theorem sumS_take {l : List (Option Tm)} {k : Nat} {t : Tm} (h : l[k]? = some (some t)) : sumS (l.take (k + 1)) = sumS (l.take k) + t.size := by
  rw [List.take_add_one, h, sumS_app]
  simp [sumS]
theorem sumS_le {l : List (Option Tm)} (k : Nat) : sumS (l.take k) ≤ sumS l := by
  have := sumS_app (l.take k) (l.drop k)
  rw [List.take_append_drop] at this
  omega
set_option maxHeartbeats 8000000 in
set_option maxRecDepth 1000000 in
theorem room_any {w : World} {ts : List (Option Tm)} {r : Nat} (hl : ts.length ≤ 100) (ht : ∀ t, some t ∈ ts → t.size ≤ 10000 ∧ t.depth ≤ 10000) (hs : sumS ts ≤ 1000000) (h : RLO w ts r) (a b : Nat) (ha : (none ∈ ts ∧ a = 0 ∧ b = 2) ∨ (¬ none ∈ ts ∧ (200 < 1 + sumS ts ∧ ts ≠ [] ∨ ∃ t, some t ∈ ts ∧ 40 ≤ t.depth) ∧ a = 0 ∧ b = 8) ∨ (¬ none ∈ ts ∧ (1 + sumS ts ≤ 200 ∨ ts = []) ∧ (∀ t, some t ∈ ts → t.depth < 40) ∧ a = 1 + sumS ts ∧ b = 0)) :
    Calls Tryd.prog 69 #[.slice (some ⟨r, 0, none⟩) ts.length ts.length] w fun e w' => e = .returned (.tuple #[.int .i64 (a : Nat), .int .i64 (b : Nat)]) ∧ Below w.heap.size w w' := by
  go_enter Tryd.func69, Tryd.ntmps69
  go_wp2
  go_loopw [4, 11] (fun vs vi wr => ∃ k : Nat, vi = .int .i64 k ∧ k ≤ ts.length ∧ vs = .int .i64 (1 + sumS (ts.take k) : Nat) ∧ (∀ t, t ∈ ts.take k → t ≠ none) ∧ w = wr) (fun _ vi _ => ts.length - (intOf vi).toNat)
  case atStart => exact ⟨0, rfl, Nat.zero_le _, rfl, by simp, rfl⟩
  case round =>
    obtain ⟨k, rfl, hk, rfl, hno, rfl⟩ := hrel
    by_cases hlt : k < ts.length
    · have hk1 : ((k : Nat) : Int) < ((ts.length : Nat) : Int) := by omega
      have hg := List.getElem?_eq_getElem hlt
      obtain ⟨y, c0, hy⟩ := h k _ hg
      have hle := sumS_le (l := ts) k
      cases ho : ts[k] with
      | none =>
        rw [ho] at hy hg
        have hmem : none ∈ ts := by rw [← ho]; exact List.getElem_mem hlt
        obtain ⟨rfl, rfl⟩ : a = 0 ∧ b = 2 := by
          rcases ha with ⟨_, h1, h2⟩ | ⟨h0, _⟩ | ⟨h0, _⟩
          · exact ⟨h1, h2⟩
          · exact absurd hmem h0
          · exact absurd hmem h0
        have hyn : y = .nilIface := hy
        subst hyn
        go_wp2
        go_ret2
        exact ⟨rfl, Below.refl _ _⟩
      | some t =>
        rw [ho] at hy hg
        have hsuc := sumS_take hg
        have hsz := (ht t (by rw [← ho]; exact List.getElem_mem hlt)).1
        have hy' : RT _ t y := hy
        obtain ⟨D, u, rfl⟩ := hy'.shape
        go_wp2_with (go_at_call 77; refine (size_any hy').mono ?_)
        rintro e w2 ⟨rfl, rfl⟩
        go_wp2
        go_roundw
        case rel =>
          refine ⟨k + 1, by go_num, by omega, ?_, fun t' ht' => ?_, by first | rfl | trivial⟩
          · rw [hsuc]
            congr 1
            first
              | omega
              | (rw [wrap64_small (by omega) (by omega)]; omega)
          · rw [List.take_add_one, hg] at ht'
            rcases List.mem_append.1 ht' with h1 | h1
            · exact hno t' h1
            · simp at h1; rw [h1]; simp
        case measure => simp [intOf]; omega
    · have hk1 : ¬ ((k : Nat) : Int) < ((ts.length : Nat) : Int) := by omega
      have hkl : k = ts.length := by omega
      subst hkl
      rw [List.take_length] at hno
      have hnn : ¬ none ∈ ts := fun hm => hno none hm rfl
      rw [List.take_length]
      have hsl := sumS_le (l := ts) ts.length
      go_wp2
      go_loopw [24] (fun vi wr' => ∃ k : Nat, vi = .int .i64 k ∧ k ≤ ts.length ∧ (∀ t, some t ∈ ts.take k → t.depth < 40) ∧ (k ≠ 0 → 1 + sumS ts ≤ 200) ∧ Below w.heap.size w wr') (fun vi _ => ts.length - (intOf vi).toNat)
      case atStart => exact ⟨0, rfl, Nat.zero_le _, by simp, by simp, Below.refl _ _⟩
      case round =>
        obtain ⟨k, rfl, hk, hdep, hsz, hbw⟩ := hrel
        by_cases hlt : k < ts.length
        · have hk1 : ((k : Nat) : Int) < ((ts.length : Nat) : Int) := by omega
          have hne : ts ≠ [] := by intro e; rw [e] at hlt; simp at hlt
          have hg := List.getElem?_eq_getElem hlt
          obtain ⟨y, c0, hy⟩ := (h.below hbw) k _ hg
          have hmem := List.getElem_mem hlt
          cases ho : ts[k] with
          | none => rw [ho] at hmem; exact absurd hmem hnn
          | some t =>
            rw [ho] at hy hg hmem
            have hy' : RT _ t y := hy
            obtain ⟨D, u, rfl⟩ := hy'.shape
            by_cases hbig : 200 < 1 + sumS ts
            · have hbig1 : (200 : Int) < ((1 + sumS ts : Nat) : Int) := by omega
              have hab : a = 0 ∧ b = 8 := by
                rcases ha with ⟨h0, _⟩ | ⟨_, _, h1, h2⟩ | ⟨_, h0, _⟩
                · exact absurd h0 hnn
                · exact ⟨h1, h2⟩
                · rcases h0 with h0 | h0
                  · omega
                  · exact absurd h0 hne
              obtain ⟨rfl, rfl⟩ := hab
              go_wp2
              go_ret2
              exact ⟨rfl, hbw⟩
            · have hbig1 : ¬ (200 : Int) < ((1 + sumS ts : Nat) : Int) := by omega
              have htd := (ht t hmem).2
              go_wp2_with (go_at_call 78; refine (depth_any t htd _ _ hy').mono ?_)
              try simp only [and_imp]
              rintro e w2 rfl hb2
              have hdec : decide ((200 : Int) < 1 + ((sumS ts : Nat) : Int)) = false := decide_eq_false (by omega)
              by_cases h40 : 40 ≤ t.depth
              · have h401 : (40 : Int) ≤ ((t.depth : Nat) : Int) := by omega
                have hab : a = 0 ∧ b = 8 := by
                  rcases ha with ⟨h0, _⟩ | ⟨_, _, h1, h2⟩ | ⟨_, _, h0, _⟩
                  · exact absurd h0 hnn
                  · exact ⟨h1, h2⟩
                  · have := h0 t hmem; omega
                obtain ⟨rfl, rfl⟩ := hab
                go_wp2
                go_ret2
                exact ⟨rfl, hbw.trans (hb2.mono hbw.size)⟩
              · have h401 : ¬ (40 : Int) ≤ ((t.depth : Nat) : Int) := by omega
                go_wp2
                go_roundw
                case rel =>
                  refine ⟨k + 1, by go_num, by omega, fun t' ht' => ?_, fun _ => by omega, hbw.trans (hb2.mono hbw.size)⟩
                  rw [List.take_add_one, hg] at ht'
                  rcases List.mem_append.1 ht' with h1 | h1
                  · exact hdep t' h1
                  · simp at h1; rw [h1]; omega
                case measure => simp [intOf]; omega
        · have hk1 : ¬ ((k : Nat) : Int) < ((ts.length : Nat) : Int) := by omega
          have hkl : k = ts.length := by omega
          subst hkl
          rw [List.take_length] at hdep
          have hab : a = 1 + sumS ts ∧ b = 0 := by
            rcases ha with ⟨h0, _⟩ | ⟨_, h0, _⟩ | ⟨_, _, _, h1, h2⟩
            · exact absurd h0 hnn
            · rcases h0 with ⟨h0, h1⟩ | ⟨t, h0, h1⟩
              · have := hsz (by intro e; exact h1 (List.length_eq_zero_iff.1 e)); omega
              · have := hdep t h0; omega
            · exact ⟨h1, h2⟩
          obtain ⟨rfl, rfl⟩ := hab
          go_wp2
          go_ret2
          exact ⟨by show Ending.returned (.tuple #[.int .i64 (1 + (sumS ts : Int)), .int .i64 0]) = _; congr 4 <;> simp, hbw⟩
end Go.Proofs.YthigfakjiknhcaaDoorT
