/- Chapter 1: plain arithmetic. -/
import Derived.Test.YtgjbkgajkcgdfaaEvC2
namespace Go.Proofs.YtgjbkgajkcgdfaaE
open Go
set_option linter.unusedVariables false
set_option linter.unusedSimpArgs false

theorem u64_wrap {x : Int} (h0 : 0 ≤ x) (h : x < 2 ^ 64) : IntKind.u64.wrap x = x := by
  unfold IntKind.wrap
  simp [IntKind.signed, IntKind.bits]
  omega
theorem u8_wrap (x : Int) : IntKind.u8.wrap x = x % 256 := by
  unfold IntKind.wrap
  simp [IntKind.signed, IntKind.bits]
theorem tdiv_nn {x : Int} (h0 : 0 ≤ x) : x.tdiv 256 = x / 256 := Int.tdiv_eq_ediv_of_nonneg h0
theorem tmod_nn {x : Int} (h0 : 0 ≤ x) : x.tmod 256 = x % 256 := Int.tmod_eq_emod_of_nonneg h0
theorem dig_eq : ∀ (w : Nat) (n : Int), 0 ≤ n → n < 2 ^ 64 → dig n w = (List.range w).map fun i => (n / 2 ^ (8 * i)) % 256
  | 0, n, _, _ => rfl
  | w + 1, n, h0, h1 => by
    have hd : IntKind.u64.wrap (n.tdiv 256) = n / 256 := by rw [tdiv_nn h0]; exact u64_wrap (by omega) (by omega)
    simp only [dig, hd]
    rw [dig_eq w (n / 256) (by omega) (by omega), List.range_succ_eq_map, List.map_cons, List.map_map]
    congr 1
    · rw [u8_wrap, tmod_nn h0]; simp
    · refine List.map_congr_left (fun i _ => ?_)
      simp only [Function.comp_apply]
      rw [Int.ediv_ediv_of_nonneg (by omega)]
      congr 2
      rw [show 8 * (i + 1) = 8 + 8 * i by omega, Int.pow_add]
      rfl
theorem pO_eq {n : Int} {w : Nat} {t : Bool} (h0 : 0 ≤ n) (h1 : n < 2 ^ 64) : pD n w t = pO n w t := by
  unfold pD pO
  rw [dig_eq w n h0 h1]
  congr 1
  refine List.map_congr_left (fun i _ => ?_)
  rw [u8_wrap, Int.fdiv_eq_ediv_of_nonneg _ (by exact Int.le_of_lt (Int.pow_pos (by decide)))]
theorem pO_len (n : Int) (w : Nat) (t : Bool) : (pO n w t).length = w := by
  unfold pO rev
  split <;> simp
end Go.Proofs.YtgjbkgajkcgdfaaE
