/- What the evaluator's values and heap say of the machine's. -/
import Derived.Test.YtchoafdpckknmaaDoorEvTb
import Derived.Laws.IdiomCopy
import Derived.Laws.World
namespace Go.Proofs.YtchoafdpckknmaaDoorE
open Go

set_option linter.unusedSimpArgs false
set_option linter.unusedVariables false
abbrev Pl := Nat → Option Nat
def noPl : Pl := fun _ => none
def plC (c : C) (ρ : Pl) : Pl := if c.isImm then noPl else ρ
def sizeOf? (w : World) (r : Nat) : Option Nat :=
 match w.heap[r]? with
 | some (.cells cs _ _) => some cs.size
 | _ => none

inductive RelV (m : Nat → Option Nat) (I : Nat → Prop) (w : World) : Pl → V → Value → Prop
 | int (ρ : Pl) (k : IntKind) (n : Int) : RelV m I w ρ (.int k n) (.int k n)
 | bool (ρ : Pl) (b : Bool) : RelV m I w ρ (.bool b) (.bool b)
 | str (ρ : Pl) (s : List UInt8) : RelV m I w ρ (.str s) (.string ⟨s.toArray⟩)
 | nilp (ρ : Pl) : RelV m I w ρ .nilp (.pointer none)
 | ptr (ρ : Pl) (b off r : Nat) (h : ρ b = some r) : RelV m I w ρ (.ptr b off) (.pointer (some ⟨r, off, none⟩))
 | rptr (ρ : Pl) (c : C) (r o : Nat) (f : Nat → Value) (hI : I r)
   (hc : ∀ (j : Nat) (v : V), c.get j = some v → v.isCell = true ∧ w.cell? ⟨r, o + j, none⟩ = some (f j))
   (hf : ∀ (j : Nat) (v : V), c.get j = some v → RelV m I w noPl v (f j)) : RelV m I w ρ (.rptr c) (.pointer (some ⟨r, o, none⟩))
 | nils (ρ : Pl) : RelV m I w ρ .nils (.slice none 0 0)
 | ez (ρ : Pl) (A : Option Addr) : RelV m I w ρ .ez (.slice A 0 0)
 | en (ρ : Pl) (A : Addr) (rc : Nat) : RelV m I w ρ .en (.slice (some A) 0 rc)
 | sl0 (ρ : Pl) (b off sz : Nat) (cap : Option Nat) (A : Option Addr) (h : ∀ c, cap = some c → c = 0) : RelV m I w ρ (.sl b off 0 cap sz) (.slice A 0 0)
 | sl1 (ρ : Pl) (b off len sz : Nat) (cap : Option Nat) (r rc n : Nat) (h1 : ρ b = some r) (h2 : len ≤ rc) (h3 : ∀ c, cap = some c → c = rc)
   (h4 : sizeOf? w r = some n) (h5 : off + rc * sz ≤ n) : RelV m I w ρ (.sl b off len cap sz) (.slice (some ⟨r, off, none⟩) len rc)
 | rs (ρ : Pl) (len : Nat) (c : C) (A : Option Addr) (rc : Nat) (f : Nat → Value) (h : len ≤ rc)
   (hc : ∀ (j : Nat) (v : V), c.get j = some v → v.isCell = true ∧ ∃ r o, A = some ⟨r, o, none⟩ ∧ I r ∧ w.cell? ⟨r, o + j, none⟩ = some (f j))
   (hf : ∀ (j : Nat) (v : V), c.get j = some v → RelV m I w noPl v (f j)) (h0 : A = none → rc = 0) : RelV m I w ρ (.rs len c) (.slice A len rc)
 | tb (ρ : Pl) (s : Sh) (l : List s.T) (x : Value) (h : RelV m I w ρ (tbRs s l) x) : RelV m I w ρ (.tb s l) x
 | fn (ρ : Pl) (g f : Nat) (caps : List V) (cs : Array Value) (hm : m f = some g) (hs : cs.size = caps.length)
   (hf : ∀ (j : Nat) (v : V) (x : Value), caps[j]? = some v → cs[j]? = some x → RelV m I w ρ v x) : RelV m I w ρ (.fn g caps) (.func (.func f) #[] cs)
 | nilf (ρ : Pl) : RelV m I w ρ .nilf .nilFunc
 | nili (ρ : Pl) : RelV m I w ρ .nili .nilIface
 | agg (ρ : Pl) (c : C) (cs : Array Value) (hs : cs.size = c.len) (hc : ∀ (j : Nat) (v : V), c.get j = some v → v.isCell = true)
   (hf : ∀ (j : Nat) (v : V) (x : Value), c.get j = some v → cs[j]? = some x → RelV m I w (plC c ρ) v x) : RelV m I w ρ (.agg c) (.agg cs)
 | tup (ρ : Pl) (l : List V) (vs : Array Value) (hs : vs.size = l.length)
   (hf : ∀ (j : Nat) (v : V) (x : Value), l[j]? = some v → vs[j]? = some x → RelV m I w ρ v x) : RelV m I w ρ (.tup l) (.tuple vs)
 | undef (ρ : Pl) (x : Value) : RelV m I w ρ .undef x

def live (H : List Blk) (i : Nat) : Prop := ∃ b, H[i]? = some b ∧ b ≠ .dead

/-- a block of the evaluator's heap, and the machine's block that it is -/
def BRel (m : Nat → Option Nat) (I O : Nat → Prop) (w : World) (ρ : Pl) (r : Nat) : Blk → Prop
 | .dead => True
 | .cells ro c => ∃ cs e fr, w.heap[r]? = some (.cells cs e fr) ∧ (fr.1 = fr.2 ∨ cs.size ≤ fr.1) ∧ c.len ≤ cs.size ∧
   (∀ (j : Nat) (v : V), c.get j = some v → v.isCell = true) ∧ (∀ (j : Nat) (v : V) (x : Value), c.get j = some v → cs[j]? = some x → RelV m I w (plC c ρ) v x) ∧
   (ro = false → O r) ∧ (ro = true → I r)
 | .iter s pos => w.heap[r]? = some (.stringIter ⟨s.toArray⟩ pos) ∧ O r

/-- the tables stand as they stood -/
def VarOK (I : Nat → Prop) (w : World) : Prop := ∀ g t, tabs g = some t → I g ∧ ∀ (j : Nat) (n : Int), t.2[j]? = some n → w.cell? ⟨g, j, none⟩ = some (.int t.1 n)
theorem VarOK.step {I I' : Nat → Prop} {w w' : World} (h : VarOK I w) (hi : ∀ k, I k → I' k) (hb : ∀ k, I k → w'.heap[k]? = w.heap[k]?) : VarOK I' w' := fun g t ht => by
 obtain ⟨h1, h2⟩ := h g t ht
 refine ⟨hi g h1, fun j n hn => ?_⟩
 rw [← h2 j n hn]
 unfold World.cell?
 simp only [hb g h1]
theorem VarOK.rel {m : Nat → Option Nat} {I : Nat → Prop} {w : World} {ρ : Pl} (h : VarOK I w) {g : Nat} {t : IntKind × List Int} (ht : tabs g = some t) : RelV m I w ρ (.rptr (.ints t.1 t.2)) (.pointer (some ⟨g, 0, none⟩)) := by
 obtain ⟨h1, h2⟩ := h g t ht
 have get : ∀ (j : Nat) (v : V), (C.ints t.1 t.2).get j = some v → ∃ n, t.2[j]? = some n ∧ v = .int t.1 n := fun j v hv => by
  simp only [C.get, Option.map_eq_some_iff] at hv
  obtain ⟨n, hn, rfl⟩ := hv
  exact ⟨n, hn, rfl⟩
 refine .rptr ρ _ g 0 (fun j => .int t.1 (t.2.getD j 0)) h1 (fun j v hv => ?_) (fun j v hv => ?_)
 ·obtain ⟨n, hn, rfl⟩ := get j v hv
  refine ⟨rfl, ?_⟩
  rw [Nat.zero_add, h2 j n hn, List.getD_eq_getElem?_getD, hn]; rfl
 ·obtain ⟨n, hn, rfl⟩ := get j v hv
  rw [List.getD_eq_getElem?_getD, hn]
  exact .int _ _ _

structure HRel (m : Nat → Option Nat) (I O : Nat → Prop) (w : World) (ρ : Pl) (H : List Blk) : Prop where
 inj : ∀ i j r, ρ i = some r → ρ j = some r → live H i → live H j → i = j
 blk : ∀ i r, ρ i = some r → ∃ b, H[i]? = some b ∧ BRel m I O w ρ r b
 lt : ∀ i r, ρ i = some r → r < w.heap.size
 own : ∀ k, O k → k < w.heap.size
 imm : ∀ k, I k → k < w.heap.size
 dis : ∀ k, I k → ¬ O k
 tab : VarOK I w

/-- what stays: the streams; every block that is not one's own, to the cell; the size of every block -/
structure Ext (O : Nat → Prop) (w w' : World) : Prop where
 os : w'.os = w.os
 tape : w'.tape = w.tape
 output : w'.output = w.output
 size : w.heap.size ≤ w'.heap.size
 block : ∀ k, k < w.heap.size → ¬ O k → w'.heap[k]? = w.heap[k]?
 cells : ∀ k n, sizeOf? w k = some n → sizeOf? w' k = some n

theorem Ext.refl (O : Nat → Prop) (w : World) : Ext O w w := ⟨rfl, rfl, rfl, Nat.le_refl _, fun _ _ _ => rfl, fun _ _ h => h⟩
theorem Ext.trans {O O' : Nat → Prop} {a b c : World} (h : Ext O a b) (h' : Ext O' b c) (ho : ∀ k, O' k → k < a.heap.size → O k) : Ext O a c :=
 ⟨h'.os.trans h.os, h'.tape.trans h.tape, h'.output.trans h.output, Nat.le_trans h.size h'.size,
  fun k hk hn => (h'.block k (Nat.lt_of_lt_of_le hk h.size) (fun hO => hn (ho k hO hk))).trans (h.block k hk hn),
  fun k n hn => h'.cells k n (h.cells k n hn)⟩
theorem Ext.mono {O O' : Nat → Prop} {a b : World} (h : Ext O a b) (ho : ∀ k, O k → O' k) : Ext O' a b :=
 ⟨h.os, h.tape, h.output, h.size, fun k hk hn => h.block k hk (fun hO => hn (ho k hO)), h.cells⟩

/-- how a relation goes on -/
structure Mono (I : Nat → Prop) (w : World) (ρ : Pl) (I' : Nat → Prop) (w' : World) (ρ' : Pl) : Prop where
 imm : ∀ k, I k → I' k
 pl : ∀ i r, ρ i = some r → ρ' i = some r
 block : ∀ k, I k → w'.heap[k]? = w.heap[k]?
 cells : ∀ k n, sizeOf? w k = some n → sizeOf? w' k = some n

theorem cell?_same {w w' : World} {a : Addr} (h : w'.heap[a.block]? = w.heap[a.block]?) : w'.cell? a = w.cell? a := by
 unfold World.cell?; rw [h]
theorem fr_free {w : World} {r : Nat} {cs : Array Value} {e : TypeId} {fr : Nat × Nat} (h : w.heap[r]? = some (.cells cs e fr)) (hf : fr.1 = fr.2 ∨ cs.size ≤ fr.1) : ∀ o, o < cs.size → w.frozen? ⟨r, o, none⟩ = false := by
 intro o ho
 obtain ⟨lo, hi⟩ := fr
 simp only [World.frozen?, h, Bool.and_eq_false_iff, decide_eq_false_iff_not]
 simp only [] at hf
 omega
theorem frozen?_same {w w' : World} {a : Addr} (h : w'.heap[a.block]? = w.heap[a.block]?) : w'.frozen? a = w.frozen? a := by
 unfold World.frozen?; rw [h]

theorem plC_le {ρ ρ' : Pl} {c : C} (h : ∀ i r, ρ i = some r → ρ' i = some r) : ∀ i r, plC c ρ i = some r → plC c ρ' i = some r := by
 unfold plC; split
 ·exact fun _ _ h => h
 ·exact h

theorem RelV.mono {m : Nat → Option Nat} {I I' : Nat → Prop} {w w' : World} (hI : ∀ k, I k → I' k) (hb : ∀ k, I k → w'.heap[k]? = w.heap[k]?)
  (hc : ∀ k n, sizeOf? w k = some n → sizeOf? w' k = some n) {ρ : Pl} {v : V} {x : Value} (h : RelV m I w ρ v x) :
  ∀ ρ' : Pl, (∀ i r, ρ i = some r → ρ' i = some r) → RelV m I' w' ρ' v x := by
 induction h with
 | int => exact fun _ _ => .int _ _ _
 | bool => exact fun _ _ => .bool _ _
 | str => exact fun _ _ => .str _ _
 | nilp => exact fun _ _ => .nilp _
 | ptr ρ b off r h => exact fun ρ' hp => .ptr _ _ _ _ (hp _ _ h)
 | rptr ρ c r o f hr hcc hf ih =>
  exact fun ρ' _ => .rptr _ c r o f (hI _ hr) (fun j v hj => ⟨(hcc j v hj).1, (cell?_same (hb r hr)).trans (hcc j v hj).2⟩) (fun j v hj => ih j v hj noPl (fun _ _ h => h))
 | nils => exact fun _ _ => .nils _
 | ez => exact fun _ _ => .ez _ _
 | en => exact fun _ _ => .en _ _ _
 | sl0 ρ b off sz cap A h => exact fun _ _ => .sl0 _ _ _ _ _ _ h
 | sl1 ρ b off len sz cap r rc n h1 h2 h3 h4 h5 => exact fun ρ' hp => .sl1 _ _ _ _ _ _ r rc n (hp _ _ h1) h2 h3 (hc _ _ h4) h5
 | rs ρ len c A rc f h hcc hf h0 ih =>
  refine fun ρ' _ => .rs _ len c A rc f h (fun j v hj => ?_) (fun j v hj => ih j v hj noPl (fun _ _ h => h)) h0
  obtain ⟨h1, r, o, hA, hr, hx⟩ := hcc j v hj
  exact ⟨h1, r, o, hA, hI _ hr, (cell?_same (hb r hr)).trans hx⟩
 | tb ρ s l x h ih => exact fun ρ' hp => .tb _ _ _ _ (ih ρ' hp)
 | fn ρ g f caps cs hm hs hf ih => exact fun ρ' hp => .fn _ g f caps cs hm hs (fun j v x h1 h2 => ih j v x h1 h2 ρ' hp)
 | nilf => exact fun _ _ => .nilf _
 | nili => exact fun _ _ => .nili _
 | agg ρ c cs hs hcc hf ih => exact fun ρ' hp => .agg _ c cs hs hcc (fun j v x h1 h2 => ih j v x h1 h2 _ (plC_le hp))
 | tup ρ l vs hs hf ih => exact fun ρ' hp => .tup _ l vs hs (fun j v x h1 h2 => ih j v x h1 h2 ρ' hp)
 | undef => exact fun _ _ => .undef _ _

theorem Mono.rel {m : Nat → Option Nat} {I I' : Nat → Prop} {w w' : World} {ρ ρ' : Pl} (h : Mono I w ρ I' w' ρ') {v : V} {x : Value} (hr : RelV m I w ρ v x) : RelV m I' w' ρ' v x :=
 hr.mono h.imm h.block h.cells ρ' h.pl
theorem Mono.relC {m : Nat → Option Nat} {I I' : Nat → Prop} {w w' : World} {ρ ρ' : Pl} (h : Mono I w ρ I' w' ρ') {c : C} {v : V} {x : Value} (hr : RelV m I w (plC c ρ) v x) : RelV m I' w' (plC c ρ') v x :=
 hr.mono h.imm h.block h.cells _ (plC_le h.pl)
theorem Mono.refl (I : Nat → Prop) (w : World) (ρ : Pl) : Mono I w ρ I w ρ := ⟨fun _ h => h, fun _ _ h => h, fun _ _ => rfl, fun _ _ h => h⟩

theorem tbRs_rs (s : Sh) (l : List s.T) : ∃ c, tbRs s l = .rs l.length c := by
 unfold tbRs; split <;> exact ⟨_, rfl⟩
/-- what names no block hangs on no placement -/
theorem RelV.idf {m : Nat → Option Nat} {I : Nat → Prop} {w : World} {ρ : Pl} {v : V} {x : Value} (h : RelV m I w ρ v x) (hi : v.idf = true) : ∀ ρ', RelV m I w ρ' v x := by
 intro ρ'
 cases h <;> simp only [V.idf, Bool.false_eq_true] at hi <;> first | exact hi.elim | skip
 ·exact .int _ _ _
 ·exact .bool _ _
 ·exact .str _ _
 ·exact .nilp _
 ·rename_i h1 h2 h3; exact .rptr _ _ _ _ _ h1 h2 h3
 ·exact .nils _
 ·exact .ez _ _
 ·exact .en _ _ _
 ·rename_i h1 h2 h3 h4; exact .rs _ _ _ _ _ _ h1 h2 h3 h4
 ·rename_i s l h
  obtain ⟨c, hc⟩ := tbRs_rs s l
  refine .tb _ _ _ _ ?_
  rw [hc] at h ⊢
  cases h with
  | rs _ _ _ A rc f h1 h2 h3 h4 => exact .rs _ _ _ _ _ f h1 h2 h3 h4
 ·rename_i caps cs hm hs hf
  cases caps with
  | nil => exact .fn _ _ _ _ _ hm hs (fun j v x h => by simp at h)
  | cons a l => simp [V.idf] at hi
 ·exact .nilf _
 ·exact .nili _

theorem C.get_lt {c : C} {j : Nat} {v : V} (h : c.get j = some v) : j < c.len := by
 cases c with
 | ints k l =>
  simp only [C.get, Option.map_eq_some_iff] at h
  obtain ⟨n, hn, _⟩ := h
  exact (List.getElem?_eq_some_iff.1 hn).1
 | vals l => exact (List.getElem?_eq_some_iff.1 h).1
 | imm l => exact (List.getElem?_eq_some_iff.1 h).1
theorem C.get_some {c : C} {j : Nat} (h : j < c.len) : ∃ v, c.get j = some v := by
 cases c with
 | ints k l => exact ⟨_, by show (l[j]?).map _ = _; rw [List.getElem?_eq_getElem (show j < l.length from h)]; rfl⟩
 | vals l => exact ⟨_, List.getElem?_eq_getElem (show j < l.length from h)⟩
 | imm l => exact ⟨_, List.getElem?_eq_getElem (show j < l.length from h)⟩
theorem C.len_toL (c : C) : c.toL.length = c.len := by cases c <;> simp [C.toL, C.len]
theorem C.get_toL (c : C) (j : Nat) : c.toL[j]? = c.get j := by cases c <;> simp [C.toL, C.get]
theorem C.get_sub {c : C} {o n j : Nat} {v : V} (h : (c.sub o n).get j = some v) : j < n ∧ c.get (o + j) = some v := by
 cases c <;> simp only [C.sub, C.get, List.getElem?_take, List.getElem?_drop] at h ⊢ <;> split at h <;> simp_all
theorem C.get_sub' {c : C} {o n j : Nat} (h : j < n) : (c.sub o n).get j = c.get (o + j) := by
 cases c <;> simp only [C.sub, C.get, List.getElem?_take, List.getElem?_drop, if_pos h]
theorem C.len_sub {c : C} {o n : Nat} (h : o + n ≤ c.len) : (c.sub o n).len = n := by
 cases c <;> simp only [C.sub, C.len, List.length_take, List.length_drop] at h ⊢ <;> omega
theorem C.get_drop (c : C) (o j : Nat) : (c.drop o).get j = c.get (o + j) := by
 cases c <;> simp [C.drop, C.get, List.getElem?_drop]
theorem C.isImm_sub (c : C) (o n : Nat) : (c.sub o n).isImm = c.isImm := by cases c <;> rfl
theorem C.isImm_drop (c : C) (o : Nat) : (c.drop o).isImm = c.isImm := by cases c <;> rfl
theorem plC_sub (c : C) (o n : Nat) (ρ : Pl) : plC (c.sub o n) ρ = plC c ρ := by unfold plC; rw [C.isImm_sub]

/-! ### typed slices -/
theorem cells_len : ∀ (s : Sh) (r : s.T), (s.cells r).length = s.size
 | .int _, _ => rfl
 | .bool, _ => rfl
 | .str, _ => rfl
 | .sl _, _ => rfl
 | .ar _, _ => rfl
 | .pr a b, r => by simp [Sh.cells, Sh.size, cells_len a, cells_len b]
 | .st s, r => cells_len s r
 | .tu _, _ => rfl
theorem cells_cell : ∀ (s : Sh) (r : s.T) (v : V), v ∈ s.cells r → v.isCell = true ∧ v.idf = true
 | .int _, _, v, h => by simp [Sh.cells] at h; subst h; exact ⟨rfl, rfl⟩
 | .bool, _, v, h => by simp [Sh.cells] at h; subst h; exact ⟨rfl, rfl⟩
 | .str, _, v, h => by simp [Sh.cells] at h; subst h; exact ⟨rfl, rfl⟩
 | .sl _, _, v, h => by simp [Sh.cells] at h; subst h; exact ⟨rfl, rfl⟩
 | .ar _, _, v, h => by simp [Sh.cells] at h
 | .pr a b, r, v, h => by
  simp only [Sh.cells, List.mem_append] at h
  rcases h with h | h
  ·exact cells_cell a _ v h
  ·exact cells_cell b _ v h
 | .st s, r, v, h => cells_cell s r v h
 | .tu _, _, v, h => by simp [Sh.cells] at h
theorem flat_len (s : Sh) (l : List s.T) : (flat s l).length = l.length * s.size := by
 induction l with
 | nil => simp [flat]
 | cons a l ih =>
  have : flat s (a :: l) = s.cells a ++ flat s l := by simp [flat]
  rw [this, List.length_append, ih, cells_len, List.length_cons, Nat.add_mul]
  omega
theorem flat_append (s : Sh) (l r : List s.T) : flat s (l ++ r) = flat s l ++ flat s r := by simp [flat]
theorem flat_take (s : Sh) (l : List s.T) (k : Nat) : flat s (l.take k) = (flat s l).take (k * s.size) := by
 rcases Nat.lt_or_ge l.length k with h | h
 ·rw [List.take_of_length_le (by omega), List.take_of_length_le]
  rw [flat_len]; exact Nat.mul_le_mul_right _ (by omega)
 ·have h1 := flat_append s (l.take k) (l.drop k)
  rw [List.take_append_drop] at h1
  have h2 : (flat s (l.take k)).length = k * s.size := by rw [flat_len, List.length_take]; congr 1; omega
  rw [h1, ← h2, List.take_left]
theorem flat_drop (s : Sh) (l : List s.T) (k : Nat) : flat s (l.drop k) = (flat s l).drop (k * s.size) := by
 rcases Nat.lt_or_ge l.length k with h | h
 ·rw [List.drop_of_length_le (by omega), List.drop_of_length_le]
  ·rfl
  ·rw [flat_len]; exact Nat.mul_le_mul_right _ (by omega)
 ·have h1 := flat_append s (l.take k) (l.drop k)
  rw [List.take_append_drop] at h1
  have h2 : (flat s (l.take k)).length = k * s.size := by rw [flat_len, List.length_take]; congr 1; omega
  rw [h1, ← h2, List.drop_left]
theorem flat_get (s : Sh) (l : List s.T) {i : Nat} {r : s.T} (h : l[i]? = some r) {j : Nat} (hj : j < s.size) : (flat s l)[i * s.size + j]? = (s.cells r)[j]? := by
 have h1 : l.drop i = r :: l.drop (i + 1) := by
  obtain ⟨h2, rfl⟩ := List.getElem?_eq_some_iff.1 h
  exact List.drop_eq_getElem_cons h2
 have h2 : flat s (l.drop i) = s.cells r ++ flat s (l.drop (i + 1)) := by rw [h1]; simp [flat]
 rw [flat_drop] at h2
 rw [← List.getElem?_drop, h2, List.getElem?_append_left (by rw [cells_len]; exact hj)]
theorem flat_cell (s : Sh) (l : List s.T) (v : V) (h : v ∈ flat s l) : v.isCell = true ∧ v.idf = true := by
 simp only [flat, List.mem_flatMap] at h
 obtain ⟨r, _, h⟩ := h
 exact cells_cell s r v h
/-- a typed slice's content -/
def tbC : (s : Sh) → List s.T → C
 | .int k, l => .ints k l
 | s, l => .imm (flat s l)
theorem tbRs_eq (s : Sh) (l : List s.T) : tbRs s l = .rs l.length (tbC s l) := by cases s <;> rfl
theorem tbC_get (s : Sh) (l : List s.T) (j : Nat) : (tbC s l).get j = (flat s l)[j]? := by
 cases s <;> first | rfl | skip
 rename_i k
 have : flat (.int k) l = (show List Int from l).map (V.int k) := by
  simp only [flat, Sh.cells]
  induction l with
  | nil => rfl
  | cons a l ih => simp [ih]
 rw [this]
 simp [tbC, C.get]
variable {m : Nat → Option Nat} {I : Nat → Prop} {w : World} {ρ : Pl}
theorem RelV.mk_tb {s : Sh} {l : List s.T} {A : Option Addr} {n rc : Nat} (f : Nat → Value) (hn : n = l.length) (h : l.length ≤ rc)
  (hc : ∀ (j : Nat) (v : V), (flat s l)[j]? = some v → ∃ r o, A = some ⟨r, o, none⟩ ∧ I r ∧ w.cell? ⟨r, o + j, none⟩ = some (f j))
  (hf : ∀ (j : Nat) (v : V), (flat s l)[j]? = some v → RelV m I w noPl v (f j)) (h0 : A = none → rc = 0) : RelV m I w ρ (.tb s l) (.slice A n rc) := by
 subst hn
 refine .tb _ _ _ _ ?_
 rw [tbRs_eq]
 exact .rs _ _ _ _ _ f h (fun j v hv => by rw [tbC_get] at hv; exact ⟨(flat_cell s l v (List.mem_of_getElem? hv)).1, hc j v hv⟩) (fun j v hv => by rw [tbC_get] at hv; exact hf j v hv) h0
theorem RelV.tb_inv {s : Sh} {l : List s.T} {x : Value} (h : RelV m I w ρ (.tb s l) x) : ∃ A rc, ∃ f : Nat → Value, x = .slice A l.length rc ∧ l.length ≤ rc ∧
  (∀ (j : Nat) (v : V), (flat s l)[j]? = some v → ∃ r o, A = some ⟨r, o, none⟩ ∧ I r ∧ w.cell? ⟨r, o + j, none⟩ = some (f j)) ∧
  (∀ (j : Nat) (v : V), (flat s l)[j]? = some v → RelV m I w noPl v (f j)) ∧ (A = none → rc = 0) := by
 cases h with
 | tb _ _ _ _ h =>
  rw [tbRs_eq] at h
  cases h with
  | rs _ _ _ A rc f h1 h2 h3 h0 => exact ⟨A, rc, f, rfl, h1, fun j v hv => (h2 j v (by rw [tbC_get]; exact hv)).2, fun j v hv => h3 j v (by rw [tbC_get]; exact hv), h0⟩
theorem RelV.tbRs_inv {s : Sh} {l : List s.T} {x : Value} (h : RelV m I w ρ (tbRs s l) x) : ∃ A rc, ∃ f : Nat → Value, x = .slice A l.length rc ∧ l.length ≤ rc ∧
  (∀ (j : Nat) (v : V), (flat s l)[j]? = some v → ∃ r o, A = some ⟨r, o, none⟩ ∧ I r ∧ w.cell? ⟨r, o + j, none⟩ = some (f j)) ∧
  (∀ (j : Nat) (v : V), (flat s l)[j]? = some v → RelV m I w noPl v (f j)) ∧ (A = none → rc = 0) := (RelV.tb ρ s l x h).tb_inv
theorem RelV.tb_any {s : Sh} {l : List s.T} {x : Value} (h : RelV m I w ρ (.tb s l) x) (ρ' : Pl) : RelV m I w ρ' (.tb s l) x := h.idf rfl ρ'
end Go.Proofs.YtchoafdpckknmaaDoorE
