/- Depth. -/
import Derived.Test.YthigfakjiknhcaaDoorTd
namespace Go.Proofs.YthigfakjiknhcaaDoorT
open Go Go.Proofs Go.RowKit
set_option linter.unusedSimpArgs false
set_option linter.unusedVariables false
theorem wrap64_small {x : Int} (h0 : -9223372036854775808 ≤ x) (h1 : x < 9223372036854775808) : wrap64 x = x := by unfold wrap64; omega
def mx : List Tm → Nat
  | [] => 0
  | t :: r => max t.depth (mx r)
theorem depth_mx (t : Tm) : t.depth = mx t.parts + 1 := by cases t <;> simp [Tm.depth, Tm.parts, mx]
theorem mx_app : ∀ (l r : List Tm), mx (l ++ r) = max (mx l) (mx r)
  | [], r => by simp [mx]
  | t :: l, r => by simp only [List.cons_append, mx, mx_app l r]; omega
theorem mx_take {l : List Tm} {k : Nat} {t : Tm} (h : l[k]? = some t) : mx (l.take (k + 1)) = max (mx (l.take k)) t.depth := by
  rw [List.take_add_one, h, mx_app]
  simp [mx]
theorem mx_mem {l : List Tm} {k : Nat} {t : Tm} (h : l[k]? = some t) : t.depth ≤ mx l := by
  have : l = l.take k ++ (t :: l.drop (k + 1)) := by
    have hk := (List.getElem?_eq_some_iff.1 h).1
    have e := List.take_append_drop k l
    rw [List.drop_eq_getElem_cons hk, (List.getElem?_eq_some_iff.1 h).2] at e
    exact e.symm
  rw [this, mx_app]
  simp [mx]; omega
theorem mx_le {l : List Tm} (k : Nat) : mx (l.take k) ≤ mx l := by
  have := mx_app (l.take k) (l.drop k)
  rw [List.take_append_drop] at this
  omega
theorem RL.below {w w' : World} {ts : List Tm} {v : Value} (h : RL w ts v) (hb : Below w.heap.size w w') : RL w' ts v := by
  rcases h with h | ⟨r, h1, h2⟩
  · exact Or.inl h
  · refine Or.inr ⟨r, h1, fun j t hj => ?_⟩
    obtain ⟨x, h3, h4⟩ := h2 j t hj
    have hr : r < w.heap.size := by
      rcases Nat.lt_or_ge r w.heap.size with hr | hr
      · exact hr
      · simp [World.cell?, Array.getElem?_eq_none hr] at h3
    exact ⟨x, by rw [hb.cell (p := ⟨r, j, none⟩) hr]; exact h3, h4.mono (KT.of_below hb)⟩
set_option maxHeartbeats 4000000 in
set_option maxRecDepth 1000000 in
theorem depth_step {t : Tm} (ih : ∀ (p : Tm) (j : Nat), t.parts[j]? = some p → ∀ (w : World) (v : Value), RT w p v → Calls Tryd.prog 78 #[v] w fun e w' => e = .returned (.int .i64 (p.depth : Nat)) ∧ Below w.heap.size w w') {w : World} {v : Value} (h : RT w t v) (hd : t.depth ≤ 10000) :
    Calls Tryd.prog 78 #[v] w fun e w' => e = .returned (.int .i64 (t.depth : Nat)) ∧ Below w.heap.size w w' := by
  obtain ⟨D, u, rfl⟩ := h.shape
  have hm := depth_mx t
  go_enter Tryd.func78, Tryd.ntmps78
  go_wp2_with (go_at_call 53; refine (parts_any h).mono ?_)
  rintro e w1 ⟨⟨x, rfl, hL⟩, hb⟩
  have hlen : t.parts.length ≤ 2 := by cases t <;> simp [Tm.parts]
  obtain ⟨A, rfl⟩ : ∃ A, x = .slice A t.parts.length t.parts.length := by
    rcases hL with ⟨h1, h2⟩ | ⟨r, h1, _⟩
    · exact ⟨none, by rw [h2]; exact h1⟩
    · exact ⟨_, h1⟩
  go_wp2
  go_loopw [3, 11] (fun vd vi wr => ∃ k : Nat, vi = .int .i64 k ∧ k ≤ t.parts.length ∧ vd = .int .i64 (mx (t.parts.take k) : Nat) ∧ Below w1.heap.size w1 wr) (fun _ vi _ => t.parts.length - (intOf vi).toNat)
  case atStart => exact ⟨0, rfl, Nat.zero_le _, rfl, Below.refl _ _⟩
  case round =>
    obtain ⟨k, rfl, hk, rfl, hbw⟩ := hrel
    have hLr := hL.below hbw
    by_cases hlt : k < t.parts.length
    · rcases hLr with ⟨h1, h2⟩ | ⟨r, h1, h2⟩
      · rw [h2] at hlt; simp at hlt
      · cases h1
        have hg := List.getElem?_eq_getElem hlt
        obtain ⟨y, c0, hy⟩ := h2 k _ hg
        have hsuc := mx_take hg
        have hle := mx_mem hg
        have hle2 := mx_le (l := t.parts) k
        generalize t.parts[k] = p at *
        have hk1 : ((k : Nat) : Int) < ((t.parts.length : Nat) : Int) := by omega
        go_wp2_with (go_at_call 78; refine (ih p k hg _ _ hy).mono ?_)
        rintro e w2 ⟨rfl, hb2⟩
        go_wp2
        go_roundw
        case rel =>
          refine ⟨k + 1, by go_num, by omega, ?_, hbw.trans (hb2.mono hbw.size)⟩
          rw [hsuc]
          congr 1
          split <;> omega
        case measure => simp [intOf]; omega
    · have hk1 : ¬ ((k : Nat) : Int) < ((t.parts.length : Nat) : Int) := by omega
      go_wp2
      go_ret
      have hkl : k = t.parts.length := by omega
      subst hkl
      refine ⟨?_, hb.trans (hbw.mono hb.size)⟩
      have hw : wrap64 ((mx (t.parts.take t.parts.length) : Int) + 1) = ((mx t.parts + 1 : Nat) : Int) := by
        rw [List.take_length]
        exact wrap64_small (by omega) (by omega)
      show Ending.returned (.int .i64 (wrap64 ((mx (t.parts.take t.parts.length) : Int) + 1))) = _
      rw [hw]; rfl
theorem depth_any : ∀ (t : Tm), t.depth ≤ 10000 → ∀ (w : World) (v : Value), RT w t v → Calls Tryd.prog 78 #[v] w fun e w' => e = .returned (.int .i64 (t.depth : Nat)) ∧ Below w.heap.size w w' := by
  intro t
  induction t with
  | atom s => exact fun hd w v h => depth_step (fun p j hj => by simp [Tm.parts] at hj) h hd
  | hash a iha =>
    intro hd w v h
    simp only [Tm.depth] at hd
    refine depth_step (fun p j hj => ?_) h hd
    match j, hj with
    | 0, hj => cases hj; exact iha (by omega)
    | j + 1, hj => simp [Tm.parts] at hj
  | pair a b iha ihb =>
    intro hd w v h
    simp only [Tm.depth] at hd
    refine depth_step (fun p j hj => ?_) h hd
    match j, hj with
    | 0, hj => cases hj; exact iha (by omega)
    | 1, hj => cases hj; exact ihb (by omega)
    | j + 2, hj => simp [Tm.parts] at hj
  | lock a b iha ihb =>
    intro hd w v h
    simp only [Tm.depth] at hd
    refine depth_step (fun p j hj => ?_) h hd
    match j, hj with
    | 0, hj => cases hj; exact iha (by omega)
    | 1, hj => cases hj; exact ihb (by omega)
    | j + 2, hj => simp [Tm.parts] at hj
end Go.Proofs.YthigfakjiknhcaaDoorT
