/- A reader's byte that must stand there; the parser, plain. -/
import Derived.Test.YthigfakjiknhcaaDoorTi
namespace Go.Proofs.YthigfakjiknhcaaDoorT
open Go Go.Proofs Go.RowKit
set_option linter.unusedSimpArgs false
set_option linter.unusedVariables false
/-- every block but one stands -/
structure KB (b : Nat) (w w' : World) : Prop where
  os : w'.os = w.os
  tape : w'.tape = w.tape
  output : w'.output = w.output
  size : w.heap.size ≤ w'.heap.size
  block : ∀ k : Nat, k < w.heap.size → k ≠ b → w'.heap[k]? = w.heap[k]?
theorem KB.refl (b : Nat) (w : World) : KB b w w := ⟨rfl, rfl, rfl, Nat.le_refl _, fun _ _ _ => rfl⟩
theorem KB.trans {b : Nat} {w w' w'' : World} (h : KB b w w') (k : KB b w' w'') : KB b w w'' := ⟨k.os.trans h.os, k.tape.trans h.tape, k.output.trans h.output, Nat.le_trans h.size k.size, fun i hi hb => (k.block i (Nat.lt_of_lt_of_le hi h.size) hb).trans (h.block i hi hb)⟩
theorem KB.of_below {b : Nat} {w w' : World} (h : Below w.heap.size w w') : KB b w w' := ⟨h.os, h.tape, h.output, h.size, fun k hk _ => h.block k hk⟩
theorem KB.drewN {b : Nat} {w w' : World} (h : KB b w w') (n : Nat) : KB b w (w'.drewN n) := ⟨h.os, h.tape, h.output, h.size, h.block⟩
/-- a reader that holds a text -/
def Rd (w : World) (b : Nat) (s : List UInt8) : Prop := w.heap[b]? = some (.cells #[str s] 107 (0, 0))
theorem Rd.kt {w w' : World} {b : Nat} {s : List UInt8} (h : Rd w b s) (k : KB b w w') : KT w w' := ⟨k.os, k.tape, k.output, k.size, fun i cs T fr hi ht => by
  have hlt := (Array.getElem?_eq_some_iff.1 hi).1
  by_cases e : i = b
  · subst e
    unfold Rd at h
    rw [h] at hi
    simp only [Option.some.injEq, Obj.cells.injEq] at hi
    obtain ⟨_, rfl, _⟩ := hi
    rcases ht with h | h | h <;> cases h
  · rw [k.block i hlt e]; exact hi⟩
theorem Rd.set {w : World} {b : Nat} {s : List UInt8} (h : Rd w b s) (t : List UInt8) : Rd (w.setCell ⟨b, 0, none⟩ (str t)) b t ∧ KB b w (w.setCell ⟨b, 0, none⟩ (str t)) := by
  unfold Rd at *
  refine ⟨?_, rfl, rfl, rfl, by simp [World.setCell], fun k hk hb => Below.heap_setCell _ _ _ _ hb⟩
  simp [World.setCell, Array.getElem?_modify, h]
theorem Rd.below {w w' : World} {b : Nat} {s : List UInt8} (h : Rd w b s) (hb : Below w.heap.size w w') : Rd w' b s := by
  unfold Rd at *
  rw [hb.block b (Array.getElem?_eq_some_iff.1 h).1]; exact h
theorem Rd.cell {w : World} {b : Nat} {s : List UInt8} (h : Rd w b s) : w.cell? ⟨b, 0, none⟩ = some (str s) := by rw [cell_at h 0]; rfl
theorem Rd.free {w : World} {b : Nat} {s : List UInt8} (h : Rd w b s) : w.frozen? ⟨b, 0, none⟩ = false := by
  unfold Rd at h
  simp [World.frozen?, h]
theorem ext_drop (s : List UInt8) (k : Nat) : (⟨s.toArray⟩ : ByteArray).extract k s.length = ⟨(s.drop k).toArray⟩ := by
  apply ByteArray.ext
  rw [ByteArray.data_extract]
  simp
  exact List.take_of_length_le (by simp)
theorem ext_take (s : List UInt8) (k : Nat) (h : k ≤ s.length) : (⟨s.toArray⟩ : ByteArray).extract 0 k = ⟨(s.take k).toArray⟩ := by
  apply ByteArray.ext
  rw [ByteArray.data_extract]
  simp
/-! ### the parser -/
def must (c : UInt8) : List UInt8 → Nat × List UInt8
  | [] => (4, [])
  | x :: r => if x = c then (0, r) else (3, x :: r)
set_option maxHeartbeats 8000000 in
set_option maxRecDepth 1000000 in
theorem must_any {w : World} {b : Nat} {s : List UInt8} (c : UInt8) (h : Rd w b s) : Calls Tryd.prog 85 #[.pointer (some ⟨b, 0, none⟩), .int .u8 (c.toNat : Nat)] w fun e w' => e = .returned (.int .i64 ((must c s).1 : Nat)) ∧ Rd w' b (must c s).2 ∧ KB b w w' := by
  have c0 := h.cell
  have f0 := h.free
  cases s with
  | nil =>
    go_enter Tryd.func85, Tryd.ntmps85
    go_wp2
    go_ret
    exact ⟨rfl, h, KB.refl _ _⟩
  | cons x r =>
    have hne : ((⟨(x :: r).toArray⟩ : ByteArray) == ⟨#[]⟩) = false := rfl
    have hb : ∀ h, (⟨(x :: r).toArray⟩ : ByteArray)[0]'h = x := fun h => rfl
    by_cases hx : x = c
    · have hz : (((x.toNat : Nat) : Int) != ((c.toNat : Nat) : Int)) = false := by rw [hx, bne_self_eq_false]
      have hm : must c (x :: r) = (0, r) := by show (if x = c then (0, r) else (3, x :: r)) = _; rw [if_pos hx]
      have hset := h.set r
      have hdr := ext_drop (x :: r) 1
      have hp : 0 < (x :: r).length := by simp
      have he : (x :: r).isEmpty = false := rfl
      rw [show (x :: r).drop 1 = r from rfl] at hdr
      generalize hs : x :: r = s at *
      go_enter Tryd.func85, Tryd.ntmps85
      go_wp2
      go_ret
      rw [hm]
      first
        | exact ⟨rfl, hset.1, hset.2⟩
        | (rw [hdr]; exact ⟨rfl, hset.1, hset.2⟩)
    · have hz : (((x.toNat : Nat) : Int) != ((c.toNat : Nat) : Int)) = true := by
        rw [bne_iff_ne]; intro e; exact hx (UInt8.toNat_inj.1 (by omega))
      have hm : must c (x :: r) = (3, x :: r) := by show (if x = c then (0, r) else (3, x :: r)) = _; rw [if_neg hx]
      have hp : 0 < (x :: r).length := by simp
      have he : (x :: r).isEmpty = false := rfl
      generalize hs : x :: r = s at *
      go_enter Tryd.func85, Tryd.ntmps85
      go_wp2
      go_ret
      rw [hm]
      exact ⟨rfl, h, KB.refl _ _⟩
/-- two terms up to an end, and one of them -/
def two (pT : List UInt8 → Option Tm × Nat × List UInt8) (mk : Option Tm → Option Tm → Option Tm) (c : UInt8) (s : List UInt8) : Option Tm × Nat × List UInt8 :=
  let a := pT s
  if a.2.1 ≠ 0 then (none, a.2.1, a.2.2) else
  let m := must 32 a.2.2
  if m.1 ≠ 0 then (none, m.1, m.2) else
  let b := pT m.2
  if b.2.1 ≠ 0 then (none, b.2.1, b.2.2) else
  let m2 := must c b.2.2
  if m2.1 ≠ 0 then (none, m2.1, m2.2) else
  (mk a.1 b.1, rm [a.1, b.1], m2.2)
/-- a term of a text, the error, and what is left -/
def pT : Nat → List UInt8 → Option Tm × Nat × List UInt8
  | 0, s => (none, 4, s)
  | _ + 1, [] => (none, 4, [])
  | n + 1, c :: r =>
    if c = 40 then two (pT n) mkP 41 r
    else if c = 91 then two (pT n) mkS 93 r
    else if c = 35 then
      (if (pT n r).2.1 ≠ 0 then (none, (pT n r).2.1, (pT n r).2.2) else (mkH (pT n r).1, rm [(pT n r).1], (pT n r).2.2))
    else (mkA ((c :: r).take (nm (c :: r))), aE ((c :: r).take (nm (c :: r))), (c :: r).drop (nm (c :: r)))
/-! ### what is parsed is small -/
def ok2 (o : Option Tm) : Prop := ∀ t, o = some t → t.size ≤ 200 ∧ t.depth ≤ 40
theorem ok2.okO {o : Option Tm} (h : ok2 o) : okO o := fun t ht => ⟨by have := (h t ht).1; omega, by have := (h t ht).2; omega⟩
theorem rm_zero {ts : List (Option Tm)} (h : rm ts = 0) : 1 + sumS ts ≤ 200 ∧ ∀ t, some t ∈ ts → t.depth < 40 := by
  unfold rm at h
  split at h
  · cases h
  · split at h
    · cases h
    · rename_i h2
      have h3 : ¬ (decide (200 < 1 + sumS ts) = true) := fun hh => h2 (by rw [hh]; rfl)
      have h4 : ¬ (ts.any deepB = true) := fun hh => h2 (by rw [hh, Bool.or_true])
      refine ⟨by simp at h3; omega, fun t ht => ?_⟩
      rcases Nat.lt_or_ge t.depth 40 with h5 | h5
      · exact h5
      · exact absurd (List.any_eq_true.2 ⟨some t, ht, by simpa [deepB] using h5⟩) h4
theorem ok2_P (a b : Option Tm) : ok2 (mkP a b) := by
  intro t ht
  unfold mkP at ht
  split at ht
  · split at ht
    · rename_i x y h
      cases ht
      obtain ⟨h1, h2⟩ := rm_zero h
      have d1 := h2 x (by simp)
      have d2 := h2 y (by simp)
      simp only [sumS] at h1
      simp only [Tm.size, Tm.depth]
      omega
    · cases ht
  · cases ht
theorem ok2_S (a b : Option Tm) : ok2 (mkS a b) := by
  intro t ht
  unfold mkS at ht
  split at ht
  · split at ht
    · rename_i x y h
      cases ht
      obtain ⟨h1, h2⟩ := rm_zero h
      have d1 := h2 x (by simp)
      have d2 := h2 y (by simp)
      simp only [sumS] at h1
      simp only [Tm.size, Tm.depth]
      omega
    · cases ht
  · cases ht
theorem ok2_H (a : Option Tm) : ok2 (mkH a) := by
  intro t ht
  unfold mkH at ht
  split at ht
  · split at ht
    · rename_i x h
      cases ht
      obtain ⟨h1, h2⟩ := rm_zero h
      have d1 := h2 x (by simp)
      simp only [sumS] at h1
      simp only [Tm.size, Tm.depth]
      omega
    · cases ht
  · cases ht
theorem ok2_A (s : List UInt8) : ok2 (mkA s) := by
  intro t ht
  unfold mkA at ht
  split at ht
  · cases ht; simp [Tm.size, Tm.depth]
  · cases ht
theorem ok2_none : ok2 none := fun t h => by cases h
theorem ok2_two {p : List UInt8 → Option Tm × Nat × List UInt8} {mk : Option Tm → Option Tm → Option Tm} (h : ∀ a b, ok2 (mk a b)) (c : UInt8) (s : List UInt8) : ok2 (two p mk c s).1 := by
  unfold two
  simp only
  split
  · exact ok2_none
  split
  · exact ok2_none
  split
  · exact ok2_none
  split
  · exact ok2_none
  · exact h _ _
theorem ok2_pT : ∀ (n : Nat) (s : List UInt8), ok2 (pT n s).1
  | 0, s => ok2_none
  | _ + 1, [] => ok2_none
  | n + 1, c :: r => by
    unfold pT
    split
    · exact ok2_two ok2_P _ _
    split
    · exact ok2_two ok2_S _ _
    split
    · split
      · exact ok2_none
      · exact ok2_H _
    · exact ok2_A _
theorem must_len (c : UInt8) (s : List UInt8) : (must c s).2.length ≤ s.length := by
  cases s with
  | nil => simp [must]
  | cons x r =>
    show (if x = c then (0, r) else (3, x :: r) : Nat × List UInt8).2.length ≤ _
    split <;> simp
theorem pT_len : ∀ (n : Nat) (s : List UInt8), (pT n s).2.2.length ≤ s.length
  | 0, s => Nat.le_refl _
  | _ + 1, [] => Nat.le_refl _
  | n + 1, c :: r => by
    have two_len : ∀ mk c, (two (pT n) mk c r).2.2.length ≤ r.length := fun mk c => by
      have h1 := pT_len n r
      have h2 := must_len 32 (pT n r).2.2
      have h3 := pT_len n (must 32 (pT n r).2.2).2
      have h4 := must_len c (pT n (must 32 (pT n r).2.2).2).2.2
      unfold two
      simp only
      split
      · exact h1
      split
      · show (must 32 (pT n r).2.2).2.length ≤ _; omega
      split
      · show (pT n (must 32 (pT n r).2.2).2).2.2.length ≤ _; omega
      split
      · show (must c (pT n (must 32 (pT n r).2.2).2).2.2).2.length ≤ _; omega
      · show (must c (pT n (must 32 (pT n r).2.2).2).2.2).2.length ≤ _; omega
    unfold pT
    split
    · have := two_len mkP 41; simp; omega
    split
    · have := two_len mkS 93; simp; omega
    split
    · have := pT_len n r
      split <;> (simp; omega)
    · simp
end Go.Proofs.YthigfakjiknhcaaDoorT
