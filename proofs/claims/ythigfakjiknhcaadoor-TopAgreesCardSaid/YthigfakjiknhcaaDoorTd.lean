/- Parts and Depth. -/
import Derived.Test.YthigfakjiknhcaaDoorTc
import Derived.RegionTactic
namespace Go.Proofs.YthigfakjiknhcaaDoorT
open Go Go.Proofs Go.RowKit
set_option linter.unusedSimpArgs false
set_option linter.unusedVariables false
/-- terms in a row -/
def RL (w : World) (ts : List Tm) (v : Value) : Prop := (v = .slice none 0 0 ∧ ts = []) ∨ ∃ r : Nat, v = .slice (some ⟨r, 0, none⟩) ts.length ts.length ∧ ∀ (j : Nat) (t : Tm), ts[j]? = some t → ∃ x, w.cell? ⟨r, j, none⟩ = some x ∧ RT w t x
theorem RT.shape {w : World} {t : Tm} {v : Value} (h : RT w t v) : ∃ (D : TypeId) (u : Value), v = .iface D u := by cases h <;> exact ⟨_, _, rfl⟩
theorem RT.alloc {w : World} {t : Tm} {v : Value} (h : RT w t v) (o : Obj) : RT (w.alloc o) t v := h.mono (KT.of_below ((Below.refl _ _).alloc (Nat.le_refl _) _))
theorem new_cell (w : World) (cs : Array Value) (T : TypeId) (j : Nat) : (w.alloc (.cells cs T)).cell? ⟨w.heap.size, j, none⟩ = cs[j]? := by
  have : (w.alloc (.cells cs T)).heap[w.heap.size]? = some (.cells cs T (0, 0)) := by show (w.heap.push _)[w.heap.size]? = _; simp
  exact cell_at this j
theorem RL.one {w : World} {a : Tm} {x : Value} (ha : RT w a x) : RL (w.alloc (.cells #[x] 47)) [a] (.slice (some ⟨w.heap.size, 0, none⟩) 1 1) := by
  refine Or.inr ⟨w.heap.size, rfl, fun j t hj => ?_⟩
  match j, hj with
  | 0, hj => cases hj; exact ⟨x, by rw [new_cell]; rfl, ha.alloc _⟩
  | j + 1, hj => simp at hj
theorem RL.two0 {w : World} {a b : Tm} {x y : Value} (ha : RT w a x) (hb : RT w b y) : RL (w.alloc (.cells #[x, y] 47)) [a, b] (.slice (some ⟨w.heap.size, 0, none⟩) 2 2) := by
  refine Or.inr ⟨w.heap.size, rfl, fun j t hj => ?_⟩
  match j, hj with
  | 0, hj => cases hj; exact ⟨x, by rw [new_cell]; rfl, ha.alloc _⟩
  | 1, hj => cases hj; exact ⟨y, by rw [new_cell]; rfl, hb.alloc _⟩
  | j + 2, hj => simp at hj
theorem RL.drewN {w : World} {ts : List Tm} {v : Value} (h : RL w ts v) (n : Nat) : RL (w.drewN n) ts v := by
  rcases h with h | ⟨r, h1, h2⟩
  · exact Or.inl h
  · exact Or.inr ⟨r, h1, fun j t hj => by obtain ⟨x, h3, h4⟩ := h2 j t hj; exact ⟨x, h3, h4.drewN n⟩⟩
theorem RL.two {w : World} {a b : Tm} {x y : Value} (ha : RT w a x) (hb : RT w b y) : RL (w.alloc (.cells #[x, y] 47)).drew [a, b] (.slice (some ⟨w.heap.size, 0, none⟩) 2 2) := (RL.two0 ha hb).drewN 1
set_option maxHeartbeats 4000000 in
set_option maxRecDepth 1000000 in
theorem parts_any {w : World} {t : Tm} {v : Value} (h : RT w t v) : Calls Tryd.prog 53 #[v] w fun e w' => (∃ x, e = .returned x ∧ RL w' t.parts x) ∧ Below w.heap.size w w' := by
  cases h with
  | atom s =>
    go_enter Tryd.func53, Tryd.ntmps53
    go_wp2_with (go_at_call 52; refine (kind_any (.atom s)).mono ?_)
    rintro e w1 ⟨rfl, rfl⟩
    go_wp2
    go_ret
    exact ⟨⟨_, rfl, Or.inl ⟨rfl, rfl⟩⟩, Below.refl _ _⟩
  | hash a x r h ha =>
    obtain ⟨D, u, rfl⟩ := ha.shape
    have c0 := cell_at h 0
    simp at c0
    go_enter Tryd.func53, Tryd.ntmps53
    go_wp2
    go_ret
    exact ⟨⟨_, rfl, RL.one ha⟩, (Below.refl _ _).alloc (Nat.le_refl _) _⟩
  | pair a b x y r h ha hb =>
    obtain ⟨D, u, rfl⟩ := ha.shape
    obtain ⟨D', u', rfl⟩ := hb.shape
    have c0 := cell_at h 0
    have c1 := cell_at h 1
    simp at c0 c1
    go_enter Tryd.func53, Tryd.ntmps53
    go_wp2_with (go_at_call 52; refine (show Calls _ 52 _ _ (fun e w' => e = .returned (.int .i64 2) ∧ w' = _) from kind_any (.pair a b _ _ r h ha hb)).mono ?_)
    rintro e w1 ⟨rfl, rfl⟩
    go_wp2
    go_region
    go_wp2
    go_ret
    exact ⟨⟨_, rfl, RL.two ha hb⟩, ((Below.refl _ _).alloc (Nat.le_refl _) _).drew⟩
  | lock a b x y r h ha hb =>
    obtain ⟨D, u, rfl⟩ := ha.shape
    obtain ⟨D', u', rfl⟩ := hb.shape
    have c0 := cell_at h 0
    have c1 := cell_at h 1
    simp at c0 c1
    go_enter Tryd.func53, Tryd.ntmps53
    go_wp2_with (go_at_call 52; refine (show Calls _ 52 _ _ (fun e w' => e = .returned (.int .i64 4) ∧ w' = _) from kind_any (.lock a b _ _ r h ha hb)).mono ?_)
    rintro e w1 ⟨rfl, rfl⟩
    go_wp2
    go_region
    go_wp2
    go_ret
    exact ⟨⟨_, rfl, RL.two ha hb⟩, ((Below.refl _ _).alloc (Nat.le_refl _) _).drew⟩
end Go.Proofs.YthigfakjiknhcaaDoorT
