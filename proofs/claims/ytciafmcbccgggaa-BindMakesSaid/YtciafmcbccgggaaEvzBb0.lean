/- Bytes compared; numbers by division. -/
import Derived.Test.YtciafmcbccgggaaEvzBa0
namespace Go.Proofs.YtciafmcbccgggaaE
open Go
set_option linter.unusedSimpArgs false
set_option linter.unusedVariables false
theorem nbeq (a b : Nat) : (((a : Nat) : Int) == ((b : Nat) : Int)) = (a == b) := by
 rw [Bool.eq_iff_iff, beq_iff_eq, beq_iff_eq]; omega
theorem tk0 {β : Type} (l : List β) {n : Nat} (h : l.length ≤ n) : List.take n (List.drop 0 l) = l := by rw [List.drop_zero, List.take_of_length_le h]
def h160 (a b : List Int) := p160 0 a b
theorem E160 : EntOK FT XT 160 (en160 h160) := ok160 fun _ _ _ h => ⟨0, h⟩
theorem u8_inj {a b : List Nat} (ha : bel 256 a) (hb : bel 256 b) (h : a.map (fun n : Nat => UInt8.ofNat n) = b.map (fun n : Nat => UInt8.ofNat n)) : a = b := by
 have back : ∀ l : List Nat, bel 256 l → (l.map (fun n : Nat => UInt8.ofNat n)).map (fun u : UInt8 => u.toNat) = l := fun l hl => by
  rw [List.map_map]
  refine (List.map_congr_left (g := id) (fun x hx => ?_)).trans (List.map_id l)
  have := hl x hx
  simp [UInt8.toNat_ofNat', Nat.mod_eq_of_lt this]
 rw [← back a ha, ← back b hb, h]
theorem nI_u8 (a : List Nat) : List.map (fun n : Int => UInt8.ofNat n.toNat) (nI a) = a.map (fun n : Nat => UInt8.ofNat n) := by
 unfold nI
 rw [List.map_map]
 rfl
theorem h160_is {a b : List Nat} (ha : bel 256 a) (hb : bel 256 b) : h160 (nI a) (nI b) = some (a == b) := by
 unfold h160 p160
 rw [nI_u8, nI_u8]
 congr 1
 by_cases h : a = b
 ·subst h; rw [beq_self_eq_true, beq_self_eq_true]
 ·rw [beq_eq_false_iff_ne.2 h, beq_eq_false_iff_ne.2 (fun g => h (u8_inj ha hb g))]
theorem join3 {a b c : List Nat} (h : a.length + (b.length + c.length) ≤ 1099511627776) : f1 [nI a, nI b, nI c] = some (nI (a ++ (b ++ c))) := by
 rw [f1_is (by simp) (by simp [nI_len]; omega)]
 simp [← nI_app]
end Go.Proofs.YtciafmcbccgggaaE
