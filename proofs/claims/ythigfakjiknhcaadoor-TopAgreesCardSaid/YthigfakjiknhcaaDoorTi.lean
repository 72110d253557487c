/- Atom and Same. -/
import Derived.Test.YthigfakjiknhcaaDoorTh
namespace Go.Proofs.YthigfakjiknhcaaDoorT
open Go Go.Proofs Go.RowKit
set_option linter.unusedSimpArgs false
set_option linter.unusedVariables false
/-- may a text be an atom's? -/
def atB (s : List UInt8) : Bool := !s.isEmpty && decide (s.length ≤ 8) && decide (nm s = s.length)
def aE (s : List UInt8) : Nat := if atB s then 0 else 3
def mkA (s : List UInt8) : Option Tm := if atB s then some (.atom s) else none
set_option maxHeartbeats 8000000 in
set_option maxRecDepth 1000000 in
theorem atom_any {w : World} (s : List UInt8) (hl : s.length ≤ 1000000) : Calls Tryd.prog 12 #[str s] w fun e w' => (∃ v, e = .returned (.tuple #[v, .int .i64 (aE s : Nat)]) ∧ RO w' (mkA s) v) ∧ w' = w := by
  have hnm := nm_le s
  cases s with
  | nil =>
    go_enter Tryd.func12, Tryd.ntmps12
    go_wp2
    go_ret2
    exact ⟨⟨.nilIface, rfl, rfl⟩, rfl⟩
  | cons c r =>
    have hne : ((⟨(c :: r).toArray⟩ : ByteArray) == ⟨#[]⟩) = false := rfl
    generalize hs : c :: r = s at *
    have hpos : s.isEmpty = false := by rw [← hs]; rfl
    by_cases h8 : (8 : Int) < ((s.length : Nat) : Int)
    · have e : atB s = false := by unfold atB; rw [decide_eq_false (show ¬ s.length ≤ 8 by omega)]; simp
      go_enter Tryd.func12, Tryd.ntmps12
      go_wp2
      go_ret2
      exact ⟨⟨.nilIface, by unfold aE; rw [e]; rfl, by unfold mkA; rw [e]; rfl⟩, rfl⟩
    · by_cases hn : nm s = s.length
      · have e : atB s = true := by unfold atB; rw [hpos, decide_eq_true (show s.length ≤ 8 by omega), decide_eq_true hn]; rfl
        have hz : ((((nm s : Nat) : Int)) != ((s.length : Nat) : Int)) = false := by rw [bne_eq_false_iff_eq, hn]
        go_enter Tryd.func12, Tryd.ntmps12
        go_wp2_with (go_at_call 28; refine (name_any s hl).mono ?_)
        go_ret2
        exact ⟨⟨.iface 62 (str s), by unfold aE; rw [e]; rfl, by unfold mkA; rw [e]; exact RT.atom s⟩, rfl⟩
      · have e : atB s = false := by unfold atB; rw [decide_eq_false hn]; simp
        have hz : ((((nm s : Nat) : Int)) != ((s.length : Nat) : Int)) = true := by rw [bne_iff_ne]; omega
        go_enter Tryd.func12, Tryd.ntmps12
        go_wp2_with (go_at_call 28; refine (name_any s hl).mono ?_)
        go_ret2
        exact ⟨⟨.nilIface, by unfold aE; rw [e]; rfl, by unfold mkA; rw [e]; rfl⟩, rfl⟩
/-- both, or neither, with one text -/
def sameO : Option Tm → Option Tm → Bool
  | some a, some b => a.text == b.text
  | none, none => true
  | _, _ => false
theorem str_beq (a b : List UInt8) : ((⟨a.toArray⟩ : ByteArray) == ⟨b.toArray⟩) = (a == b) := by
  show (a.toArray == b.toArray) = _
  simp
set_option maxHeartbeats 8000000 in
set_option maxRecDepth 1000000 in
theorem same_any {w : World} {a b : Option Tm} {x y : Value} (ha : RO w a x) (hb : RO w b y) (la : ∀ t, a = some t → t.text.length ≤ 50000) (lb : ∀ t, b = some t → t.text.length ≤ 50000) :
    Calls Tryd.prog 41 #[x, y] w fun e w' => e = .returned (.bool (sameO a b)) ∧ ∃ n, w' = w.drewN n := by
  cases a with
  | none =>
    have hx : x = .nilIface := ha
    subst hx
    cases b with
    | none =>
      have hy : y = .nilIface := hb
      subst hy
      go_enter Tryd.func41, Tryd.ntmps41
      go_wp2
      go_ret
      exact ⟨rfl, 0, rfl⟩
    | some t =>
      obtain ⟨D, u, rfl⟩ := RT.shape hb
      go_enter Tryd.func41, Tryd.ntmps41
      go_wp2
      go_ret
      exact ⟨rfl, 0, rfl⟩
  | some t =>
    have ha' : RT w t x := ha
    cases b with
    | none =>
      have hy : y = .nilIface := hb
      subst hy
      obtain ⟨D, u, rfl⟩ := RT.shape ha
      go_enter Tryd.func41, Tryd.ntmps41
      go_wp2
      go_ret
      exact ⟨rfl, 0, rfl⟩
    | some t' =>
      have hb' : RT w t' y := hb
      have l1 := la t rfl
      have l2 := lb t' rfl
      obtain ⟨D, u, rfl⟩ := RT.shape ha
      obtain ⟨D', u', rfl⟩ := RT.shape hb
      go_enter Tryd.func41, Tryd.ntmps41
      go_wp2_with (go_at_call 45; refine (text_any t _ _ l1 ha').mono ?_)
      try simp only [and_imp]
      rintro e w1 rfl ⟨n, rfl⟩
      go_wp2_with (go_at_call 45; refine (text_any t' _ _ l2 (hb'.drewN n)).mono ?_)
      try simp only [and_imp]
      rintro e w1 rfl ⟨n', rfl⟩
      go_wp2
      go_ret
      exact ⟨rfl, n + n', by first | rfl | simp⟩
end Go.Proofs.YthigfakjiknhcaaDoorT
