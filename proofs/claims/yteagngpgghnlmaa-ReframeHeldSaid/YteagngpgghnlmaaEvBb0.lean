/- Bytes compared; numbers by division. -/
import Derived.Test.YteagngpgghnlmaaEvBa0
namespace Go.Proofs.YteagngpgghnlmaaE
open Go
set_option linter.unusedSimpArgs false
set_option linter.unusedVariables false
/-! ### helpers -/
theorem nbeq (a b : Nat) : (((a : Nat) : Int) == ((b : Nat) : Int)) = (a == b) := by
  rw [Bool.eq_iff_iff, beq_iff_eq, beq_iff_eq]; omega
theorem nI_cons (x : Nat) (l : List Nat) : nI (x :: l) = ((x : Nat) : Int) :: nI l := rfl
theorem nI_nil : nI [] = [] := rfl
theorem geti_c0 {β : Type} (a : β) (l : List β) : geti (a :: l) 0 = some a := rfl
theorem geti_c1 {β : Type} (a b : β) (l : List β) : geti (a :: b :: l) 1 = some b := rfl
theorem geti_c2 {β : Type} (a b c : β) (l : List β) : geti (a :: b :: c :: l) 2 = some c := rfl
theorem geti_c3 {β : Type} (a b c d : β) (l : List β) : geti (a :: b :: c :: d :: l) 3 = some d := rfl
theorem tk0 {β : Type} (l : List β) {n : Nat} (h : l.length ≤ n) : List.take n (List.drop 0 l) = l := by rw [List.drop_zero, List.take_of_length_le h]
theorem and16 {p k : Nat} (h : p < 65536) (hk : k < 65536) : iand .u16 (p : Int) (k : Int) = ((p &&& k : Nat) : Int) := iand_u .u16 rfl p k h hk
theorem and1_16 {p : Nat} (h : p < 65536) : iand .u16 (p : Int) 1 = ((p % 2 : Nat) : Int) := by
  rw [show (1 : Int) = ((1 : Nat) : Int) from rfl, and16 h (by omega), Nat.and_one_is_mod]
theorem shr8_16 (p : Nat) : ishr .u16 (p : Int) 8 = ((p / 256 : Nat) : Int) := ishr_u .u16 p 8 (by decide)
theorem quo16 {a b : Nat} (h : a < 65536) : iquo .u16 (a : Int) (b : Int) = ((a / b : Nat) : Int) := by
  unfold iquo
  rw [Int.tdiv_eq_ediv_of_nonneg (by omega), show (a : Int) / (b : Int) = ((a / b : Nat) : Int) by norm_cast]
  exact wrap_u .u16 rfl (by exact_mod_cast Nat.zero_le _) (by
    have := Nat.div_le_self a b
    have h2 : a / b < 65536 := by omega
    exact_mod_cast h2)
theorem quo256 {a : Nat} (h : a < 65536) : iquo .u16 (a : Int) 256 = ((a / 256 : Nat) : Int) := quo16 (b := 256) h
theorem rem256 (a : Nat) : irem (a : Int) 256 = ((a % 256 : Nat) : Int) := irem_n a 256
theorem rem2 (a : Nat) : irem (a : Int) 2 = ((a % 2 : Nat) : Int) := irem_n a 2
theorem w16 (a : Nat) : IntKind.u16.wrap (a : Int) = ((a % 65536 : Nat) : Int) := by rw [wrap_u16]; norm_cast
theorem and1_8 {p : Nat} (h : p < 256) : iand .u8 (p : Int) 1 = ((p % 2 : Nat) : Int) := by
  rw [show (1 : Int) = ((1 : Nat) : Int) from rfl, iand_u .u8 rfl p 1 h (by decide), Nat.and_one_is_mod]
/-! ### compared -/
def h160 (a b : List Int) := p160 0 a b
theorem E160 : EntOK FT XT 160 (en160 h160) := ok160 fun _ _ _ h => ⟨0, h⟩
theorem u8_inj {a b : List Nat} (ha : bel 256 a) (hb : bel 256 b) (h : a.map (fun n : Nat => UInt8.ofNat n) = b.map (fun n : Nat => UInt8.ofNat n)) : a = b := by
  have back : ∀ l : List Nat, bel 256 l → (l.map (fun n : Nat => UInt8.ofNat n)).map (fun u : UInt8 => u.toNat) = l := fun l hl => by
    rw [List.map_map]
    refine (List.map_congr_left (g := id) (fun x hx => ?_)).trans (List.map_id l)
    have := hl x hx
    simp [UInt8.toNat_ofNat', Nat.mod_eq_of_lt this]
  rw [← back a ha, ← back b hb, h]
theorem nI_u8 (a : List Nat) : List.map (fun n : Int => UInt8.ofNat n.toNat) (nI a) = a.map (fun n : Nat => UInt8.ofNat n) := by
  unfold nI
  rw [List.map_map]
  rfl
theorem h160_is {a b : List Nat} (ha : bel 256 a) (hb : bel 256 b) : h160 (nI a) (nI b) = some (a == b) := by
  unfold h160 p160
  rw [nI_u8, nI_u8]
  congr 1
  by_cases h : a = b
  · subst h; rw [beq_self_eq_true, beq_self_eq_true]
  · rw [beq_eq_false_iff_ne.2 h, beq_eq_false_iff_ne.2 (fun g => h (u8_inj ha hb g))]
theorem E108 : EntOK FT XT 108 (en108 f108) := ⟨rfl, fun v r h => clone_ans (g := 108) rfl (fun _ => rfl) h⟩
theorem nbeq1 (a : Nat) : (((a : Nat) : Int) == 1) = (a == 1) := nbeq a 1
theorem nbeq0 (a : Nat) : (((a : Nat) : Int) == 0) = (a == 0) := nbeq a 0
theorem nbne255 (a : Nat) : (((a : Nat) : Int) != 255) = (a != 255) := by
  have := nbeq a 255
  unfold bne
  rw [← this]; rfl
theorem f108_nI {l : List Nat} (h : l.length ≤ 100000) : f108 (nI l) = some (nI l) := f108_is (by rw [nI_len]; omega)
theorem mul16 (a b : Nat) : imul .u16 (a : Int) (b : Int) = ((a * b % 65536 : Nat) : Int) := by
  unfold imul
  rw [wrap_u16]; norm_cast
theorem add16 (a b : Nat) : iadd .u16 (a : Int) (b : Int) = (((a + b) % 65536 : Nat) : Int) := iadd_u .u16 rfl a b
theorem join3 {a b c : List Nat} (h : a.length + (b.length + c.length) ≤ 1099511627776) : f1 [nI a, nI b, nI c] = some (nI (a ++ (b ++ c))) := by
  rw [f1_is (by simp) (by simp [nI_len]; omega)]
  simp [← nI_app]
def h51 (l : List Int) := p51 20 l
theorem E51 : EntOK FT XT 51 (en51 h51) := ok51 fun _ _ h => ⟨20, h⟩
theorem h51_at2 (x y : Int) : h51 [x, y] = some (iadd .u64 (imul .u64 (iadd .u64 (imul .u64 0 256) (IntKind.wrap .u64 x)) 256) (IntKind.wrap .u64 y)) := by kernel_rfl
theorem h51_2 {x y : Nat} (hx : x < 256) (hy : y < 256) : h51 [(x : Int), (y : Int)] = some ((x * 256 + y : Nat) : Int) := by
  rw [h51_at2, w64 (by omega), w64 (by omega), show (0 : Int) = ((0 : Nat) : Int) from rfl, show (256 : Int) = ((256 : Nat) : Int) from rfl, mul64, add64, mul64, add64]
  congr 1
  omega
end Go.Proofs.YteagngpgghnlmaaE
