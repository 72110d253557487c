/- Chapter 12: the keys. -/
import Derived.Test.YtdlmhclopdkhcaaDoorEvzM3
import Derived.KernelRfl
namespace Go.Proofs.YtdlmhclopdkhcaaDoorE
open Go
set_option linter.unusedSimpArgs false
set_option linter.unusedVariables false
set_option maxRecDepth 4000
theorem fillT {r z : List Int} (h : r.length = z.length) : ([] ++ r) ++ List.drop (0 + r.length) z = r := by
  rw [List.nil_append, Nat.zero_add, h, List.drop_length, List.append_nil]
theorem tkT {r : List Int} {n : Nat} (h : r.length = n) : List.take n (List.drop 0 r) = r := by
  rw [List.drop_zero, ← h, List.take_length]
theorem tk0 (r : List Int) (n : Nat) : List.take n (List.drop 0 r) = r.take n := rfl
theorem s1dig_bel (b : List Nat) : bel 256 (s1dig b) := fun x hx => by
  unfold s1dig S5.bytes at hx
  obtain ⟨n, _, hn⟩ := List.mem_flatMap.1 hx
  simp [be4] at hn; omega
theorem m4dig_bel (b : List Nat) : bel 256 (m4dig b) := fun x hx => by
  unfold m4dig S4.bytes at hx
  obtain ⟨n, _, hn⟩ := List.mem_flatMap.1 hx
  simp [le4] at hn; omega
theorem bel_rep2 {m n k : Nat} (hm : k < m) : bel m (List.replicate n k) := fun x hx => by rw [List.eq_of_mem_replicate hx]; exact hm
/-! ### the text "clientPass": letters below 128 alone -/
def h401 (s : List UInt8) := p401 0 s
theorem E401 : EntOK FT XT 401 (en401 h401) := ok401 fun _ _ h => ⟨0, h⟩
def h396 (s : List UInt8) := p396 h401 30 s
theorem E396 : EntOK FT XT 396 (en396 h396) := ok396 h401 E401 fun _ _ h => ⟨30, h⟩
def h397 (s : List UInt8) := p397 30 s
theorem E397 : EntOK FT XT 397 (en397 h397) := ok397 fun _ _ h => ⟨30, h⟩
def h391 (s : List UInt8) := p391 h396 h397 0 s
theorem E391 : EntOK FT XT 391 (en391 h391) := ok391 h396 h397 E396 E397 fun _ _ h => ⟨0, h⟩
def h392 (s : List UInt8) := p392 h391 30 s
theorem E392 : EntOK FT XT 392 (en392 h392) := ok392 h391 E391 fun _ _ h => ⟨30, h⟩
def h387 (s : List UInt8) := p387 h391 h392 h19 30 s
theorem E387 : EntOK FT XT 387 (en387 h387) := ok387 h391 h392 h19 E391 E392 E19 fun _ _ h => ⟨30, h⟩
abbrev cpS : List UInt8 := ([(99 : UInt8), (108 : UInt8), (105 : UInt8), (101 : UInt8), (110 : UInt8), (116 : UInt8), (80 : UInt8), (97 : UInt8), (115 : UInt8), (115 : UInt8)] : List UInt8)
def cpB : List Nat := [99, 0, 108, 0, 105, 0, 101, 0, 110, 0, 116, 0, 80, 0, 97, 0, 115, 0, 115, 0]
def dgB : List Nat := [68, 235, 186, 141, 83, 18, 184, 214, 17, 71, 68, 17, 245, 105, 137, 174]
theorem h387_cp : h387 cpS = some (nI cpB, 0) := by kernel_rfl
theorem m4_cp : m4dig cpB = dgB := by kernel_rfl
theorem cpB_bel : bel 256 cpB := by unfold cpB; intro x hx; simp at hx; omega
theorem dgB_bel : bel 256 dgB := by unfold dgB; intro x hx; simp at hx; omega
theorem h181_one {b : List Nat} (hb : bel 256 b) (hl : b.length ≤ 6000) : h181 [nI b] = some (nI (m4dig b)) := h181_is (b := b) (by simp) (by simp) hb hl
def h370 (s : List UInt8) := p370 h387 h181 0 s
theorem E370 : EntOK FT XT 370 (en370 h370) := ok370 h387 h181 E387 E181 fun _ _ h => ⟨0, h⟩
theorem h370_cp : h370 cpS = some (nI dgB, 0) := by
  have e : h181 [nI cpB] = some (nI dgB) := by rw [h181_one cpB_bel (by decide), m4_cp]
  unfold h370 p370
  rw [h387_cp]
  simp only [bne_self_eq_false, cond_false]
  rw [e]
  rfl
/-! ### twice -/
def h372 (h : List Int) := p372 h181 0 h
theorem E372 : EntOK FT XT 372 (en372 h372) := ok372 h181 E181 fun _ _ h => ⟨0, h⟩
def h373 (h : List Int) := p373 h182 0 h
theorem E373 : EntOK FT XT 373 (en373 h373) := ok373 h182 E182 fun _ _ h => ⟨0, h⟩
theorem h372_is {h : List Nat} (hb : bel 256 h) (hl : h.length = 16) : h372 (nI h) = some (nI (m4dig h)) := by
  have hl' : (nI h).length = 16 := by rw [nI_len, hl]
  have hm : (nI (m4dig h)).length = 16 := by rw [nI_len, m4dig_len]
  have e := h181_one hb (by omega)
  unfold h372 p372
  rw [tkT hl', e]
  generalize nI (m4dig h) = r at hm
  simp only [show List.drop 16 [(0 : Int), 0, 0, 0, 0, 0, 0, 0, 0, 0, 0, 0, 0, 0, 0, 0] = ([] : List Int) from rfl, show List.drop 20 [(0 : Int), 0, 0, 0, 0, 0, 0, 0, 0, 0, 0, 0, 0, 0, 0, 0, 0, 0, 0, 0] = ([] : List Int) from rfl, List.append_nil, List.nil_append, tkT hm, hl', hm, Nat.le_refl, Nat.zero_add, decide_true, cond_true, beq_self_eq_true]
theorem h373_is {h : List Nat} (hb : bel 256 h) (hl : h.length = 16) : h373 (nI h) = some (nI (m4dig h)) := by
  have hl' : (nI h).length = 16 := by rw [nI_len, hl]
  have hm : (nI (m4dig h)).length = 16 := by rw [nI_len, m4dig_len]
  have e := h182_is hb (by omega)
  unfold h373 p373
  rw [tkT hl', e]
  generalize nI (m4dig h) = r at hm
  simp only [show List.drop 16 [(0 : Int), 0, 0, 0, 0, 0, 0, 0, 0, 0, 0, 0, 0, 0, 0, 0] = ([] : List Int) from rfl, show List.drop 20 [(0 : Int), 0, 0, 0, 0, 0, 0, 0, 0, 0, 0, 0, 0, 0, 0, 0, 0, 0, 0, 0] = ([] : List Int) from rfl, List.append_nil, List.nil_append, tkT hm, hl', hm, Nat.le_refl, Nat.zero_add, decide_true, cond_true, beq_self_eq_true]
/-! ### Repeat -/
def mnzF (n : Int) : Option R400v0 := if 0 < n ∧ n ≤ 1000000 then some ((n.toNat, ()), ([], ())) else none
theorem Q400v0 : O400v0 mnzF := by
  intro v r w h hw
  obtain ⟨⟨n, u1⟩, u2⟩ := v
  have h : mnzF n = some r := h
  unfold mnzF at h
  split at h <;> try (cases h; done)
  rename_i hn
  injection h with h; subst h
  have hw : ([.sl 0 0 n.toNat none 1] : List V) = [w] := hw
  injection hw with hw; subst hw
  refine ⟨1, ?_⟩
  have hX : XT 400 [.int .i64 n] = some (.sl 0 0 n.toNat none 1, [.cells false (.ints .u8 [])]) := by
    show (if 0 < n ∧ n ≤ 1000000 then some (V.sl 0 0 n.toNat none 1, [Blk.cells false (.ints .u8 [])]) else none) = _
    rw [if_pos hn]
  show evF FT XT 1 400 [.int .i64 n] [] = _
  simp only [evF, show FT 400 = none from rfl, List.isEmpty_nil, if_true, hX]
  rfl
def h403 (a b : Int) := p403 0 a b
theorem E120 : EntOK FT XT 120 (en120 h120) := ok120 fun _ _ _ h => ⟨0, h⟩
def h399 (a b : Int) := p399 h120 0 a b
theorem E399 : EntOK FT XT 399 (en399 h399) := ok399 h120 E120 fun _ _ _ h => ⟨0, h⟩
def h395 (a : List Int) (n : Int) := p395 h399 mnzF 100 a n
theorem E395 : EntOK FT XT 395 (en395 h395) := ok395 h399 mnzF E399 Q400v0 fun _ _ _ h => ⟨100, h⟩
theorem h395_c : h395 [(242 : Int)] 40 = some (List.replicate 40 (242 : Int)) := by kernel_rfl
/-! ### key -/
def cS : List UInt8 := ([(79 : UInt8), (110 : UInt8), (32 : UInt8), (116 : UInt8), (104 : UInt8), (101 : UInt8), (32 : UInt8), (99 : UInt8), (108 : UInt8), (105 : UInt8), (101 : UInt8), (110 : UInt8), (116 : UInt8), (32 : UInt8), (115 : UInt8), (105 : UInt8), (100 : UInt8), (101 : UInt8), (44 : UInt8), (32 : UInt8), (116 : UInt8), (104 : UInt8), (105 : UInt8), (115 : UInt8), (32 : UInt8), (105 : UInt8), (115 : UInt8), (32 : UInt8), (116 : UInt8), (104 : UInt8), (101 : UInt8), (32 : UInt8), (115 : UInt8), (101 : UInt8), (110 : UInt8), (100 : UInt8), (32 : UInt8), (107 : UInt8), (101 : UInt8), (121 : UInt8), (59 : UInt8), (32 : UInt8), (111 : UInt8), (110 : UInt8), (32 : UInt8), (116 : UInt8), (104 : UInt8), (101 : UInt8), (32 : UInt8), (115 : UInt8), (101 : UInt8), (114 : UInt8), (118 : UInt8), (101 : UInt8), (114 : UInt8), (32 : UInt8), (115 : UInt8), (105 : UInt8), (100 : UInt8), (101 : UInt8), (44 : UInt8), (32 : UInt8), (105 : UInt8), (116 : UInt8), (32 : UInt8), (105 : UInt8), (115 : UInt8), (32 : UInt8), (116 : UInt8), (104 : UInt8), (101 : UInt8), (32 : UInt8), (114 : UInt8), (101 : UInt8), (99 : UInt8), (101 : UInt8), (105 : UInt8), (118 : UInt8), (101 : UInt8), (32 : UInt8), (107 : UInt8), (101 : UInt8), (121 : UInt8), (46 : UInt8)] : List UInt8)
def sS : List UInt8 := ([(79 : UInt8), (110 : UInt8), (32 : UInt8), (116 : UInt8), (104 : UInt8), (101 : UInt8), (32 : UInt8), (99 : UInt8), (108 : UInt8), (105 : UInt8), (101 : UInt8), (110 : UInt8), (116 : UInt8), (32 : UInt8), (115 : UInt8), (105 : UInt8), (100 : UInt8), (101 : UInt8), (44 : UInt8), (32 : UInt8), (116 : UInt8), (104 : UInt8), (105 : UInt8), (115 : UInt8), (32 : UInt8), (105 : UInt8), (115 : UInt8), (32 : UInt8), (116 : UInt8), (104 : UInt8), (101 : UInt8), (32 : UInt8), (114 : UInt8), (101 : UInt8), (99 : UInt8), (101 : UInt8), (105 : UInt8), (118 : UInt8), (101 : UInt8), (32 : UInt8), (107 : UInt8), (101 : UInt8), (121 : UInt8), (59 : UInt8), (32 : UInt8), (111 : UInt8), (110 : UInt8), (32 : UInt8), (116 : UInt8), (104 : UInt8), (101 : UInt8), (32 : UInt8), (115 : UInt8), (101 : UInt8), (114 : UInt8), (118 : UInt8), (101 : UInt8), (114 : UInt8), (32 : UInt8), (115 : UInt8), (105 : UInt8), (100 : UInt8), (101 : UInt8), (44 : UInt8), (32 : UInt8), (105 : UInt8), (116 : UInt8), (32 : UInt8), (105 : UInt8), (115 : UInt8), (32 : UInt8), (116 : UInt8), (104 : UInt8), (101 : UInt8), (32 : UInt8), (115 : UInt8), (101 : UInt8), (110 : UInt8), (100 : UInt8), (32 : UInt8), (107 : UInt8), (101 : UInt8), (121 : UInt8), (46 : UInt8)] : List UInt8)
def cN : List Nat := [79, 110, 32, 116, 104, 101, 32, 99, 108, 105, 101, 110, 116, 32, 115, 105, 100, 101, 44, 32, 116, 104, 105, 115, 32, 105, 115, 32, 116, 104, 101, 32, 115, 101, 110, 100, 32, 107, 101, 121, 59, 32, 111, 110, 32, 116, 104, 101, 32, 115, 101, 114, 118, 101, 114, 32, 115, 105, 100, 101, 44, 32, 105, 116, 32, 105, 115, 32, 116, 104, 101, 32, 114, 101, 99, 101, 105, 118, 101, 32, 107, 101, 121, 46]
def sN : List Nat := [79, 110, 32, 116, 104, 101, 32, 99, 108, 105, 101, 110, 116, 32, 115, 105, 100, 101, 44, 32, 116, 104, 105, 115, 32, 105, 115, 32, 116, 104, 101, 32, 114, 101, 99, 101, 105, 118, 101, 32, 107, 101, 121, 59, 32, 111, 110, 32, 116, 104, 101, 32, 115, 101, 114, 118, 101, 114, 32, 115, 105, 100, 101, 44, 32, 105, 116, 32, 105, 115, 32, 116, 104, 101, 32, 115, 101, 110, 100, 32, 107, 101, 121, 46]
theorem cS_is : List.map (fun b : UInt8 => ((b.toNat : Nat) : Int)) cS = nI cN := by kernel_rfl
theorem sS_is : List.map (fun b : UInt8 => ((b.toNat : Nat) : Int)) sS = nI sN := by kernel_rfl
theorem cN_bel : bel 256 cN := by unfold bel cN; decide
theorem sN_bel : bel 256 sN := by unfold bel sN; decide
def k12 (m s : List Nat) : List Nat := (s1dig (m ++ (List.replicate 40 0 ++ (s ++ List.replicate 40 242)))).take 16
theorem k12_len (m s : List Nat) : (k12 m s).length = 16 := by unfold k12; rw [List.length_take, s1dig_len]; rfl
def h389 (m : List Int) (s : List UInt8) := p389 h395 h190 0 m s
theorem E389 : EntOK FT XT 389 (en389 h389) := ok389 h395 h190 E395 E190 fun _ _ _ h => ⟨0, h⟩
theorem msg_bel {m s : List Nat} (hb : bel 256 m) (hs : bel 256 s) : bel 256 (m ++ (List.replicate 40 0 ++ (s ++ List.replicate 40 242))) :=
  bel_app hb (bel_app (bel_rep2 (by omega)) (bel_app hs (bel_rep2 (by omega))))
theorem h389_is {m s : List Nat} {t : List UInt8} (hb : bel 256 m) (hl : m.length = 16) (ht : List.map (fun b : UInt8 => ((b.toNat : Nat) : Int)) t = nI s) (hs : bel 256 s) (hsl : s.length ≤ 100) : h389 (nI m) t = some (nI (k12 m s)) := by
  have hl' : (nI m).length = 16 := by rw [nI_len, hl]
  have e : h190 [nI m, ([(0 : Int), (0 : Int), (0 : Int), (0 : Int), (0 : Int), (0 : Int), (0 : Int), (0 : Int), (0 : Int), (0 : Int), (0 : Int), (0 : Int), (0 : Int), (0 : Int), (0 : Int), (0 : Int), (0 : Int), (0 : Int), (0 : Int), (0 : Int), (0 : Int), (0 : Int), (0 : Int), (0 : Int), (0 : Int), (0 : Int), (0 : Int), (0 : Int), (0 : Int), (0 : Int), (0 : Int), (0 : Int), (0 : Int), (0 : Int), (0 : Int), (0 : Int), (0 : Int), (0 : Int), (0 : Int), (0 : Int)] : List Int), nI s, List.replicate 40 (242 : Int)] = some (nI (s1dig (m ++ (List.replicate 40 0 ++ (s ++ List.replicate 40 242))))) := by
    refine h190_is (by simp) ?_ (msg_bel hb hs) (by simp; omega)
    rw [← nI_app, ← nI_app, ← nI_app]
    rfl
  have hd : (nI (s1dig (m ++ (List.replicate 40 0 ++ (s ++ List.replicate 40 242))))).length = 20 := by rw [nI_len, s1dig_len]
  have hr : (List.replicate 40 (242 : Int)).length = 40 := by simp
  have hk : (nI (k12 m s)).length = 16 := by rw [nI_len, k12_len]
  have hk2 : (nI (s1dig (m ++ (List.replicate 40 0 ++ (s ++ List.replicate 40 242))))).take 16 = nI (k12 m s) := by rw [nI_take]; rfl
  unfold h389 p389
  rw [tkT hl', h395_c, ht]
  generalize List.replicate 40 (242 : Int) = R at *
  simp only [tkT (r := R) rfl, e]
  generalize nI (s1dig (m ++ (List.replicate 40 0 ++ (s ++ List.replicate 40 242)))) = d at *
  generalize nI (k12 m s) = k at *
  simp only [show List.drop 16 [(0 : Int), 0, 0, 0, 0, 0, 0, 0, 0, 0, 0, 0, 0, 0, 0, 0] = ([] : List Int) from rfl, show List.drop 20 [(0 : Int), 0, 0, 0, 0, 0, 0, 0, 0, 0, 0, 0, 0, 0, 0, 0, 0, 0, 0, 0] = ([] : List Int) from rfl, List.append_nil, List.nil_append, tk0, hk2, hk, hd, hl', hr, Nat.mul_one, show List.take 16 k = k from by rw [← hk, List.take_length], Nat.le_refl, Nat.zero_add, decide_true, cond_true, beq_self_eq_true, show decide (16 ≤ 20) = true from rfl]
theorem h389_c {m : List Nat} (hb : bel 256 m) (hl : m.length = 16) : h389 (nI m) cS = some (nI (k12 m cN)) := h389_is hb hl cS_is cN_bel (by decide)
theorem h389_s {m : List Nat} (hb : bel 256 m) (hl : m.length = 16) : h389 (nI m) sS = some (nI (k12 m sN)) := h389_is hb hl sS_is sN_bel (by decide)
/-! ### both keys -/
theorem tkA {A : List Int} {n : Nat} (h : A.length = n) (Y : List Int) : List.take n (A ++ Y) = A := List.take_left' h
theorem dpA {A : List Int} {n : Nat} (h : A.length = n) (Y : List Int) : List.drop n (A ++ Y) = Y := List.drop_left' h
theorem tkA0 {A : List Int} {n : Nat} (h : A.length = n) : List.take n A = A := by rw [← h, List.take_length]
theorem dpA2 {A B : List Int} (h : A.length = 16) (h2 : B.length = 16) : List.drop 32 (A ++ B) = [] := List.drop_eq_nil_of_le (by rw [List.length_append]; omega)
theorem tkA2 {A B : List Int} (h : A.length = 16) (h2 : B.length = 16) : List.take 32 (A ++ B) = A ++ B := List.take_of_length_le (by rw [List.length_append]; omega)
def of12 (m : List Nat) (sv : Bool) : List Nat := if sv then k12 m sN ++ k12 m cN else k12 m cN ++ k12 m sN
theorem of12_len (m : List Nat) (sv : Bool) : (of12 m sv).length = 32 := by unfold of12; split <;> simp [k12_len]
def h379 (m : List Int) (sv : Bool) := p379 h389 0 m sv
theorem E379 : EntOK FT XT 379 (en379 h379) := ok379 h389 E389 fun _ _ _ h => ⟨0, h⟩
theorem p379_is {c389 : D389} {M A B : List Int} (hM : M.length = 16) (hA : A.length = 16) (hB : B.length = 16) (e1 : c389 M cS = some A) (e2 : c389 M sS = some B) (sv : Bool) :
    p379 c389 0 M sv = some (if sv then B ++ A else A ++ B) := by
  have hz : ([(0 : Int), 0, 0, 0, 0, 0, 0, 0, 0, 0, 0, 0, 0, 0, 0, 0]).length = 16 := rfl
  unfold p379
  rw [tkT hM, show c389 M ([(79 : UInt8), (110 : UInt8), (32 : UInt8), (116 : UInt8), (104 : UInt8), (101 : UInt8), (32 : UInt8), (99 : UInt8), (108 : UInt8), (105 : UInt8), (101 : UInt8), (110 : UInt8), (116 : UInt8), (32 : UInt8), (115 : UInt8), (105 : UInt8), (100 : UInt8), (101 : UInt8), (44 : UInt8), (32 : UInt8), (116 : UInt8), (104 : UInt8), (105 : UInt8), (115 : UInt8), (32 : UInt8), (105 : UInt8), (115 : UInt8), (32 : UInt8), (116 : UInt8), (104 : UInt8), (101 : UInt8), (32 : UInt8), (115 : UInt8), (101 : UInt8), (110 : UInt8), (100 : UInt8), (32 : UInt8), (107 : UInt8), (101 : UInt8), (121 : UInt8), (59 : UInt8), (32 : UInt8), (111 : UInt8), (110 : UInt8), (32 : UInt8), (116 : UInt8), (104 : UInt8), (101 : UInt8), (32 : UInt8), (115 : UInt8), (101 : UInt8), (114 : UInt8), (118 : UInt8), (101 : UInt8), (114 : UInt8), (32 : UInt8), (115 : UInt8), (105 : UInt8), (100 : UInt8), (101 : UInt8), (44 : UInt8), (32 : UInt8), (105 : UInt8), (116 : UInt8), (32 : UInt8), (105 : UInt8), (115 : UInt8), (32 : UInt8), (116 : UInt8), (104 : UInt8), (101 : UInt8), (32 : UInt8), (114 : UInt8), (101 : UInt8), (99 : UInt8), (101 : UInt8), (105 : UInt8), (118 : UInt8), (101 : UInt8), (32 : UInt8), (107 : UInt8), (101 : UInt8), (121 : UInt8), (46 : UInt8)] : List UInt8) = some A from e1, show c389 M ([(79 : UInt8), (110 : UInt8), (32 : UInt8), (116 : UInt8), (104 : UInt8), (101 : UInt8), (32 : UInt8), (99 : UInt8), (108 : UInt8), (105 : UInt8), (101 : UInt8), (110 : UInt8), (116 : UInt8), (32 : UInt8), (115 : UInt8), (105 : UInt8), (100 : UInt8), (101 : UInt8), (44 : UInt8), (32 : UInt8), (116 : UInt8), (104 : UInt8), (105 : UInt8), (115 : UInt8), (32 : UInt8), (105 : UInt8), (115 : UInt8), (32 : UInt8), (116 : UInt8), (104 : UInt8), (101 : UInt8), (32 : UInt8), (114 : UInt8), (101 : UInt8), (99 : UInt8), (101 : UInt8), (105 : UInt8), (118 : UInt8), (101 : UInt8), (32 : UInt8), (107 : UInt8), (101 : UInt8), (121 : UInt8), (59 : UInt8), (32 : UInt8), (111 : UInt8), (110 : UInt8), (32 : UInt8), (116 : UInt8), (104 : UInt8), (101 : UInt8), (32 : UInt8), (115 : UInt8), (101 : UInt8), (114 : UInt8), (118 : UInt8), (101 : UInt8), (114 : UInt8), (32 : UInt8), (115 : UInt8), (105 : UInt8), (100 : UInt8), (101 : UInt8), (44 : UInt8), (32 : UInt8), (105 : UInt8), (116 : UInt8), (32 : UInt8), (105 : UInt8), (115 : UInt8), (32 : UInt8), (116 : UInt8), (104 : UInt8), (101 : UInt8), (32 : UInt8), (115 : UInt8), (101 : UInt8), (110 : UInt8), (100 : UInt8), (32 : UInt8), (107 : UInt8), (101 : UInt8), (121 : UInt8), (46 : UInt8)] : List UInt8) = some B from e2]
  cases sv <;>
  simp only [hM, hA, hB, List.length_append, tkA hA, dpA hA, tkA hB, dpA hB, tkA0 hA, tkA0 hB, dpA2 hA hB, dpA2 hA hz, dpA2 hB hA, dpA2 hB hB, tkA2 hA hB, tkA2 hB hA, show List.drop 16 [(0 : Int), 0, 0, 0, 0, 0, 0, 0, 0, 0, 0, 0, 0, 0, 0, 0, 0, 0, 0, 0, 0, 0, 0, 0, 0, 0, 0, 0, 0, 0, 0, 0] = [(0 : Int), 0, 0, 0, 0, 0, 0, 0, 0, 0, 0, 0, 0, 0, 0, 0] from rfl, hz, show List.drop 32 [(0 : Int), 0, 0, 0, 0, 0, 0, 0, 0, 0, 0, 0, 0, 0, 0, 0, 0, 0, 0, 0, 0, 0, 0, 0, 0, 0, 0, 0, 0, 0, 0, 0] = ([] : List Int) from rfl, List.append_nil, List.nil_append, Nat.mul_one, Nat.le_refl, Nat.zero_add, List.drop_zero, List.take_zero, decide_true, cond_true, cond_false, beq_self_eq_true, Bool.and_true, Bool.true_and, Bool.and_self, show (16 : Nat) + 16 = 32 from rfl, show decide (16 ≤ 20) = true from rfl, show decide (16 ≤ 32) = true from rfl, Bool.false_eq_true, if_true, if_false]
theorem h379_is {m : List Nat} (hb : bel 256 m) (hl : m.length = 16) (sv : Bool) : h379 (nI m) sv = some (nI (of12 m sv)) := by
  unfold h379
  rw [p379_is (by rw [nI_len, hl]) (by rw [nI_len, k12_len]) (by rw [nI_len, k12_len]) (h389_c hb hl) (h389_s hb hl)]
  unfold of12
  cases sv <;> simp [nI_app]
def h383 (a : List Int) (sv : Bool) := p383 f1 0 a sv
theorem E383 : EntOK FT XT 383 (en383 h383) := ok383 f1 E46 fun _ _ _ h => ⟨0, h⟩
theorem h383_is {A B : List Int} (hA : A.length = 16) (hB : B.length = 16) (sv : Bool) : h383 (A ++ B) sv = some (if sv then B ++ A else A ++ B) := by
  have f : ∀ X Y : List Int, X.length = 16 → Y.length = 16 → f1 [X, Y] = some (X ++ Y) := fun X Y h1 h2 => by
    rw [f1_is (by simp) (by simp [h1, h2])]; simp
  unfold h383 p383
  cases sv <;>
  simp only [hA, hB, List.length_append, tkA hA, dpA hA, tkA hB, dpA hB, tkA0 hA, tkA0 hB, dpA2 hA hB, dpA2 hB hA, dpA2 hB hB, tkA2 hA hB, tkA2 hB hA, f A B hA hB, f B A hB hA, show List.drop 32 [(0 : Int), 0, 0, 0, 0, 0, 0, 0, 0, 0, 0, 0, 0, 0, 0, 0, 0, 0, 0, 0, 0, 0, 0, 0, 0, 0, 0, 0, 0, 0, 0, 0] = ([] : List Int) from rfl, List.append_nil, List.nil_append, Nat.mul_one, Nat.le_refl, Nat.zero_add, List.drop_zero, List.take_zero, decide_true, cond_true, cond_false, beq_self_eq_true, Bool.and_true, Bool.true_and, Bool.and_self, show (16 : Nat) + 16 = 32 from rfl, show decide (16 ≤ 20) = true from rfl, show decide (16 ≤ 32) = true from rfl, Bool.false_eq_true, if_true, if_false]
/-! ### master -/
def wM : List Nat := [84, 104, 105, 115, 32, 105, 115, 32, 116, 104, 101, 32, 77, 80, 80, 69, 32, 77, 97, 115, 116, 101, 114, 32, 75, 101, 121]
theorem wM_bel : bel 256 wM := by unfold bel wM; decide
def mas (h r : List Nat) : List Nat := (s1dig (m4dig h ++ (r ++ wM))).take 16
theorem mas_len (h r : List Nat) : (mas h r).length = 16 := by unfold mas; rw [List.length_take, s1dig_len]; rfl
theorem mas_bel (h r : List Nat) : bel 256 (mas h r) := bel_take (s1dig_bel _)
def h378 (h r : List Int) := p378 h372 h190 0 h r
theorem E378 : EntOK FT XT 378 (en378 h378) := ok378 h372 h190 E372 E190 fun _ _ _ h => ⟨0, h⟩
theorem h378_is {h r : List Nat} (hb : bel 256 h) (hl : h.length = 16) (hr : bel 256 r) (hrl : r.length = 24) : h378 (nI h) (nI r) = some (nI (mas h r)) := by
  have hl' : (nI h).length = 16 := by rw [nI_len, hl]
  have hr' : (nI r).length = 24 := by rw [nI_len, hrl]
  have hm : (nI (m4dig h)).length = 16 := by rw [nI_len, m4dig_len]
  have e : h190 [nI (m4dig h), nI r, ([(84 : Int), (104 : Int), (105 : Int), (115 : Int), (32 : Int), (105 : Int), (115 : Int), (32 : Int), (116 : Int), (104 : Int), (101 : Int), (32 : Int), (77 : Int), (80 : Int), (80 : Int), (69 : Int), (32 : Int), (77 : Int), (97 : Int), (115 : Int), (116 : Int), (101 : Int), (114 : Int), (32 : Int), (75 : Int), (101 : Int), (121 : Int)] : List Int)] = some (nI (s1dig (m4dig h ++ (r ++ wM)))) := by
    refine h190_is (by simp) ?_ (bel_app (m4dig_bel _) (bel_app hr wM_bel)) (by simp [m4dig_len, hrl]; decide)
    rw [← nI_app, ← nI_app]
    rfl
  have hd : (nI (s1dig (m4dig h ++ (r ++ wM)))).length = 20 := by rw [nI_len, s1dig_len]
  have hk : (nI (mas h r)).length = 16 := by rw [nI_len, mas_len]
  have hk2 : (nI (s1dig (m4dig h ++ (r ++ wM)))).take 16 = nI (mas h r) := by rw [nI_take]; rfl
  unfold h378 p378
  rw [tkT hl', h372_is hb hl]
  generalize nI (m4dig h) = M at *
  generalize nI r = R at *
  generalize nI (s1dig (m4dig h ++ (r ++ wM))) = d at *
  generalize nI (mas h r) = k at *
  simp only [hl', hr', hm, hk, hd, hk2, tkA0 hm, tkA0 hr', tkA0 hk, e, show List.drop 16 [(0 : Int), 0, 0, 0, 0, 0, 0, 0, 0, 0, 0, 0, 0, 0, 0, 0] = ([] : List Int) from rfl, show List.drop 20 [(0 : Int), 0, 0, 0, 0, 0, 0, 0, 0, 0, 0, 0, 0, 0, 0, 0, 0, 0, 0, 0] = ([] : List Int) from rfl, List.append_nil, List.nil_append, Nat.mul_one, Nat.le_refl, Nat.zero_add, List.drop_zero, List.take_zero, decide_true, cond_true, cond_false, beq_self_eq_true, Bool.and_true, Bool.true_and, Bool.and_self, show (16 : Nat) + 16 = 32 from rfl, show decide (16 ≤ 20) = true from rfl, show decide (16 ≤ 32) = true from rfl]
def h384 (h r : List Int) (sv : Bool) := p384 h378 h379 h383 0 h r sv
theorem E384 : EntOK FT XT 384 (en384 h384) := ok384 h378 h379 h383 E378 E379 E383 fun _ _ _ _ h => ⟨0, h⟩
def up (h r : List Nat) : List Nat := k12 (mas h r) cN ++ k12 (mas h r) sN
theorem up_len (h r : List Nat) : (up h r).length = 32 := by unfold up; simp [k12_len]
theorem h384_is {h r : List Nat} (hb : bel 256 h) (hl : h.length = 16) (hr : bel 256 r) (hrl : r.length = 24) (sv : Bool) : h384 (nI h) (nI r) sv = some (nI (up h r)) := by
  have e1 := h378_is hb hl hr hrl
  have e2 := h379_is (mas_bel h r) (mas_len h r) sv
  have e3 : h383 (nI (of12 (mas h r) sv)) sv = some (nI (up h r)) := by
    unfold of12 up
    cases sv
    · simp only [Bool.false_eq_true, if_false, ← nI_app]
      exact h383_is (by rw [nI_len, k12_len]) (by rw [nI_len, k12_len]) false
    · simp only [if_true, ← nI_app]
      exact h383_is (by rw [nI_len, k12_len]) (by rw [nI_len, k12_len]) true
  have hu : (nI (up h r)).length = 32 := by rw [nI_len, up_len]
  have hl' : (nI h).length = 16 := by rw [nI_len, hl]
  have hr' : (nI r).length = 24 := by rw [nI_len, hrl]
  unfold h384 p384
  rw [tkT hl', tkT hr', e1]
  simp only [e2, e3]
  generalize nI (up h r) = U at *
  simp only [hu, hl', hr', tkA0 hu, show List.drop 32 [(0 : Int), 0, 0, 0, 0, 0, 0, 0, 0, 0, 0, 0, 0, 0, 0, 0, 0, 0, 0, 0, 0, 0, 0, 0, 0, 0, 0, 0, 0, 0, 0, 0] = ([] : List Int) from rfl, List.append_nil, List.nil_append, Nat.mul_one, Nat.le_refl, Nat.zero_add, List.drop_zero, List.take_zero, decide_true, cond_true, cond_false, beq_self_eq_true, Bool.and_true, Bool.true_and, Bool.and_self, show (16 : Nat) + 16 = 32 from rfl, show decide (16 ≤ 20) = true from rfl, show decide (16 ≤ 32) = true from rfl]
/-! ### the document's -/
def a16 (f : Nat → Int) : List Int := (List.range 16).map f
def a20 (f : Nat → Int) : List Int := (List.range 20).map f
theorem as_a16 {z : List Int} (h : z.length = 16) : z = a16 (fun i => z.getD i 0) := by
  unfold a16
  apply List.ext_getElem
  · simp [h]
  · intro i h1 h2
    simp only [List.getElem_map, List.getElem_range]
    rw [List.getD_eq_getElem?_getD, List.getElem?_eq_getElem h1]; rfl
theorem as_a20 {z : List Int} (h : z.length = 20) : z = a20 (fun i => z.getD i 0) := by
  unfold a20
  apply List.ext_getElem
  · simp [h]
  · intro i h1 h2
    simp only [List.getElem_map, List.getElem_range]
    rw [List.getD_eq_getElem?_getD, List.getElem?_eq_getElem h1]; rfl
def h390 (b : List Int) := p390 h191 100 b
theorem E390 : EntOK FT XT 390 (en390 h390) := ok390 h191 E191 fun _ _ h => ⟨100, h⟩
theorem p390_is (c191 : D191) (f : Nat → Int) {b : List Int} (h : c191 b = some (a20 f)) : p390 c191 100 b = some (a16 f) := by
  unfold p390
  rw [h]
  kernel_rfl
theorem h390_is {b : List Nat} (hb : bel 256 b) (hl : b.length ≤ 6000) : h390 (nI b) = some (nI ((s1dig b).take 16)) := by
  have e := h191_is hb hl
  have hd : (nI (s1dig b)).length = 20 := by rw [nI_len, s1dig_len]
  rw [as_a20 hd] at e
  unfold h390
  rw [p390_is h191 _ e, ← nI_take]
  congr 1
def h380 (h r : List Int) := p380 h373 h390 0 h r
theorem E380 : EntOK FT XT 380 (en380 h380) := ok380 h373 h390 E373 E390 fun _ _ _ h => ⟨0, h⟩
theorem h380_is {h r : List Nat} (hb : bel 256 h) (hl : h.length = 16) (hr : bel 256 r) (hrl : r.length = 24) : h380 (nI h) (nI r) = some (nI (mas h r)) := by
  have hl' : (nI h).length = 16 := by rw [nI_len, hl]
  have hr' : (nI r).length = 24 := by rw [nI_len, hrl]
  have hm : (nI (m4dig h)).length = 16 := by rw [nI_len, m4dig_len]
  have e : h390 ((nI (m4dig h) ++ nI r) ++ [(84 : Int), 104, 105, 115, 32, 105, 115, 32, 116, 104, 101, 32, 77, 80, 80, 69, 32, 77, 97, 115, 116, 101, 114, 32, 75, 101, 121]) = some (nI (mas h r)) := by
    rw [show ([(84 : Int), 104, 105, 115, 32, 105, 115, 32, 116, 104, 101, 32, 77, 80, 80, 69, 32, 77, 97, 115, 116, 101, 114, 32, 75, 101, 121] : List Int) = nI wM from rfl, nI_app, nI_app, List.append_assoc]
    exact h390_is (bel_app (m4dig_bel _) (bel_app hr wM_bel)) (by simp [m4dig_len, hrl]; decide)
  have hk : (nI (mas h r)).length = 16 := by rw [nI_len, mas_len]
  have hw : ([(84 : Int), 104, 105, 115, 32, 105, 115, 32, 116, 104, 101, 32, 77, 80, 80, 69, 32, 77, 97, 115, 116, 101, 114, 32, 75, 101, 121]).length = 27 := rfl
  unfold h380 p380
  rw [tkT hl', h373_is hb hl]
  generalize nI (m4dig h) = M at *
  generalize nI r = R at *
  generalize nI (mas h r) = k at *
  have ht : List.take 67 ((M ++ R) ++ [(84 : Int), 104, 105, 115, 32, 105, 115, 32, 116, 104, 101, 32, 77, 80, 80, 69, 32, 77, 97, 115, 116, 101, 114, 32, 75, 101, 121]) = (M ++ R) ++ [(84 : Int), 104, 105, 115, 32, 105, 115, 32, 116, 104, 101, 32, 77, 80, 80, 69, 32, 77, 97, 115, 116, 101, 114, 32, 75, 101, 121] := List.take_of_length_le (by rw [List.length_append, List.length_append]; omega)
  simp only [hl', hr', hm, hk, tkA0 hm, tkA0 hr', tkA0 hk, List.length_append, hw, ht, e, show (16 : Nat) + 24 = 40 from rfl, show (40 : Nat) + 27 = 67 from rfl, show List.drop 16 [(0 : Int), 0, 0, 0, 0, 0, 0, 0, 0, 0, 0, 0, 0, 0, 0, 0] = ([] : List Int) from rfl, show List.drop 20 [(0 : Int), 0, 0, 0, 0, 0, 0, 0, 0, 0, 0, 0, 0, 0, 0, 0, 0, 0, 0, 0] = ([] : List Int) from rfl, List.append_nil, List.nil_append, Nat.mul_one, Nat.le_refl, Nat.zero_add, List.drop_zero, List.take_zero, decide_true, cond_true, cond_false, beq_self_eq_true, Bool.and_true, Bool.true_and, Bool.and_self, show (16 : Nat) + 16 = 32 from rfl, show decide (16 ≤ 20) = true from rfl, show decide (16 ≤ 32) = true from rfl]
def h381 (m : List Int) (a : Bool) := p381 h390 100 m a
theorem E381 : EntOK FT XT 381 (en381 h381) := ok381 h390 E390 fun _ _ _ h => ⟨100, h⟩
theorem p381_t (c390 : D390) (f g : Nat → Int) (h : c390 (a16 f ++ (List.replicate 40 (0 : Int) ++ (nI cN ++ List.replicate 40 (242 : Int)))) = some (a16 g)) : p381 c390 100 (a16 f) true = some (a16 g) := by
  have e : p381 c390 100 (a16 f) true = (match c390 (a16 f ++ (List.replicate 40 (0 : Int) ++ (nI cN ++ List.replicate 40 (242 : Int)))) with
    | none => none
    | some r8 => bif ((List.length r8) == 16) then bif (decide ((0 + (List.length r8)) ≤ 16)) then bif (decide (16 ≤ (List.length (([] ++ r8) ++ (List.drop (0 + (List.length r8)) [(0 : Int), 0, 0, 0, 0, 0, 0, 0, 0, 0, 0, 0, 0, 0, 0, 0]))))) then some (List.take 16 (List.drop 0 (([] ++ r8) ++ (List.drop (0 + (List.length r8)) [(0 : Int), 0, 0, 0, 0, 0, 0, 0, 0, 0, 0, 0, 0, 0, 0, 0])))) else none else none else none) := by kernel_rfl
  rw [e, h]
  rfl
theorem p381_f (c390 : D390) (f g : Nat → Int) (h : c390 (a16 f ++ (List.replicate 40 (0 : Int) ++ (nI sN ++ List.replicate 40 (242 : Int)))) = some (a16 g)) : p381 c390 100 (a16 f) false = some (a16 g) := by
  have e : p381 c390 100 (a16 f) false = (match c390 (a16 f ++ (List.replicate 40 (0 : Int) ++ (nI sN ++ List.replicate 40 (242 : Int)))) with
    | none => none
    | some r8 => bif ((List.length r8) == 16) then bif (decide ((0 + (List.length r8)) ≤ 16)) then bif (decide (16 ≤ (List.length (([] ++ r8) ++ (List.drop (0 + (List.length r8)) [(0 : Int), 0, 0, 0, 0, 0, 0, 0, 0, 0, 0, 0, 0, 0, 0, 0]))))) then some (List.take 16 (List.drop 0 (([] ++ r8) ++ (List.drop (0 + (List.length r8)) [(0 : Int), 0, 0, 0, 0, 0, 0, 0, 0, 0, 0, 0, 0, 0, 0, 0])))) else none else none else none) := by kernel_rfl
  rw [e, h]
  rfl
theorem h381_is {m : List Nat} (hb : bel 256 m) (hl : m.length = 16) (a : Bool) : h381 (nI m) a = some (nI (k12 m (if a then cN else sN))) := by
  have hl' : (nI m).length = 16 := by rw [nI_len, hl]
  have key : ∀ s : List Nat, bel 256 s → s.length ≤ 100 → h390 (nI m ++ (List.replicate 40 (0 : Int) ++ (nI s ++ List.replicate 40 (242 : Int)))) = some (nI (k12 m s)) := fun s hs hsl => by
    rw [show List.replicate 40 (0 : Int) = nI (List.replicate 40 0) from rfl, show List.replicate 40 (242 : Int) = nI (List.replicate 40 242) from rfl, nI_app, nI_app, nI_app]
    exact h390_is (msg_bel hb hs) (by simp; omega)
  have hk : ∀ s, (nI (k12 m s)).length = 16 := fun s => by rw [nI_len, k12_len]
  unfold h381
  cases a
  · have e := key sN sN_bel (by decide)
    rw [as_a16 (hk sN), as_a16 hl'] at e
    rw [if_neg (by simp), as_a16 (hk sN)]
    rw [as_a16 hl']
    exact p381_f _ _ _ e
  · have e := key cN cN_bel (by decide)
    rw [as_a16 (hk cN), as_a16 hl'] at e
    rw [if_pos rfl, as_a16 (hk cN)]
    rw [as_a16 hl']
    exact p381_t _ _ _ e
end Go.Proofs.YtdlmhclopdkhcaaDoorE
