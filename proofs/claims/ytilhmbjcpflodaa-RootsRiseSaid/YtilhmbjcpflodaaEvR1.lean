/- Chapter 2: primes. -/
import Derived.Test.YtilhmbjcpflodaaEvHC
import Derived.Test.YtilhmbjcpflodaaEvOp
import Derived.Test.YtilhmbjcpflodaaEvMa
namespace Go.Proofs.YtilhmbjcpflodaaE
open Go
set_option linter.unusedSimpArgs false
set_option linter.unusedVariables false
def f80 : Option Bool := some true
theorem E80 : EntOK FT XT 80 (en80 f80) := ⟨rfl, fun v r h => by
  have : r = true := by injection h with h; exact h.symm
  subst this
  exact ⟨400, by kernel_rfl⟩⟩
def nI (l : List Nat) : List Int := l.map (fun n : Nat => (n : Int))
theorem nI_len (l : List Nat) : (nI l).length = l.length := by simp [nI]
theorem nI_get (l : List Nat) (j : Nat) : (nI l)[j]? = (l[j]?).map (fun n : Nat => (n : Int)) := by simp [nI]
theorem nI_take (l : List Nat) (k : Nat) : (nI l).take k = nI (l.take k) := by simp [nI, List.map_take]
theorem nI_app (l r : List Nat) : nI l ++ nI r = nI (l ++ r) := by simp [nI]
theorem nI_getn {l : List Nat} {i : Nat} (h : i < l.length) : (nI l)[i]? = some ((l[i] : Nat) : Int) := by rw [nI_get, List.getElem?_eq_getElem h]; rfl
theorem irem_n (a b : Nat) : irem (a : Int) (b : Int) = ((a % b : Nat) : Int) := by
  unfold irem; rw [Int.tmod_eq_emod_of_nonneg (by omega)]; norm_cast
theorem up1 {i : Nat} (h : i < 2 ^ 62) : iadd .i64 (i : Int) 1 = ((i + 1 : Nat) : Int) := by rw [iadd_i (by omega) (by omega)]; omega

/-! ### the primes below 1000 -/
def PL : List Nat := [2, 3, 5, 7, 11, 13, 17, 19, 23, 29, 31, 37, 41, 43, 47, 53, 59, 61, 67, 71, 73, 79, 83, 89, 97, 101, 103, 107, 109, 113, 127, 131, 137, 139, 149, 151, 157, 163, 167, 173, 179, 181, 191, 193, 197, 199, 211, 223, 227, 229, 233, 239, 241, 251, 257, 263, 269, 271, 277, 281, 283, 293, 307, 311, 313, 317, 331, 337, 347, 349, 353, 359, 367, 373, 379, 383, 389, 397, 401, 409, 419, 421, 431, 433, 439, 443, 449, 457, 461, 463, 467, 479, 487, 491, 499, 503, 509, 521, 523, 541, 547, 557, 563, 569, 571, 577, 587, 593, 599, 601, 607, 613, 617, 619, 631, 641, 643, 647, 653, 659, 661, 673, 677, 683, 691, 701, 709, 719, 727, 733, 739, 743, 751, 757, 761, 769, 773, 787, 797, 809, 811, 821, 823, 827, 829, 839, 853, 857, 859, 863, 877, 881, 883, 887, 907, 911, 919, 929, 937, 941, 947, 953, 967, 971, 977, 983, 991, 997]
def S (n : Nat) : List Nat := PL.filter fun p => Nat.blt p n
def isP (n : Nat) : Bool := Nat.ble 2 n && (S n).all fun p => !Nat.beq (n % p) 0
def step (n : Nat) : List Nat := bif isP n then [n] else []
def T1 (n : Nat) : Bool := S (n + 1) == S n ++ step n
def T2 (n : Nat) : Bool := S n == PL.take (S n).length
def T3 (n : Nat) : Bool := Nat.blt n 2 || (S (n + 1)).any fun p => Nat.beq (n % p) 0
def T4 (i : Nat) : Bool := (PL.take i).all fun q => Nat.blt q (PL[i]?.getD 0) && !Nat.beq ((PL[i]?.getD 0) % q) 0
set_option maxRecDepth 100000
theorem t1 : (List.range 1000).all T1 = true := by kernel_rfl
theorem t2 : (List.range 1001).all T2 = true := by kernel_rfl
theorem t3 : (List.range 1000).all T3 = true := by kernel_rfl
theorem t4 : (List.range 168).all T4 = true := by kernel_rfl
theorem t5 : S 1000 = PL := by kernel_rfl
theorem t6 : S 2 = [] := by kernel_rfl
theorem t7 : PL.length = 168 := by kernel_rfl
theorem t8 : (PL.all fun p => Nat.ble 2 p && Nat.blt p 1000) = true := by kernel_rfl
end Go.Proofs.YtilhmbjcpflodaaE
