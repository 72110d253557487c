/- Terms as they lie in the heap. -/
import Derived.Test.YthigfakjiknhcaaDoorProg
import Derived.WalkKit
import Derived.Below
import Derived.Deep.Draws
namespace Go.Proofs.YthigfakjiknhcaaDoorT
open Go Go.RowKit
set_option linter.unusedSimpArgs false
set_option linter.unusedVariables false
/-- a term -/
inductive Tm where
  | atom (s : List UInt8)
  | pair (a b : Tm)
  | hash (a : Tm)
  | lock (k a : Tm)
  deriving DecidableEq
abbrev str (l : List UInt8) : Value := .string ⟨l.toArray⟩
namespace Tm
def text : Tm → List UInt8
  | atom s => s
  | pair a b => 40 :: (a.text ++ (32 :: (b.text ++ [41])))
  | hash a => 35 :: a.text
  | lock k a => 91 :: (k.text ++ (32 :: (a.text ++ [93])))
def size : Tm → Nat
  | atom _ => 1
  | pair a b => 1 + a.size + b.size
  | hash a => 1 + a.size
  | lock k a => 1 + k.size + a.size
def depth : Tm → Nat
  | atom _ => 1
  | pair a b => max a.depth b.depth + 1
  | hash a => a.depth + 1
  | lock k a => max k.depth a.depth + 1
def kind : Tm → Nat
  | atom _ => 1
  | pair _ _ => 2
  | hash _ => 3
  | lock _ _ => 4
def parts : Tm → List Tm
  | atom _ => []
  | pair a b => [a, b]
  | hash a => [a]
  | lock k a => [k, a]
end Tm
/-- a term and the value that it is -/
inductive RT (w : World) : Tm → Value → Prop
  | atom (s : List UInt8) : RT w (.atom s) (.iface 62 (str s))
  | pair (a b : Tm) (x y : Value) (r : Nat) (h : w.heap[r]? = some (.cells #[x, y, .int .i64 ((Tm.pair a b).size : Nat)] 97 (0, 0))) (ha : RT w a x) (hb : RT w b y) : RT w (.pair a b) (.iface 95 (.pointer (some ⟨r, 0, none⟩)))
  | hash (a : Tm) (x : Value) (r : Nat) (h : w.heap[r]? = some (.cells #[x, .int .i64 ((Tm.hash a).size : Nat)] 100 (0, 0))) (ha : RT w a x) : RT w (.hash a) (.iface 98 (.pointer (some ⟨r, 0, none⟩)))
  | lock (k a : Tm) (x y : Value) (r : Nat) (h : w.heap[r]? = some (.cells #[x, y, .int .i64 ((Tm.lock k a).size : Nat)] 103 (0, 0))) (ha : RT w k x) (hb : RT w a y) : RT w (.lock k a) (.iface 101 (.pointer (some ⟨r, 0, none⟩)))
/-- a term, or none -/
def RO (w : World) : Option Tm → Value → Prop
  | some t, v => RT w t v
  | none, v => v = .nilIface
/-- the terms' blocks stand -/
def TB (T : TypeId) : Prop := T = 97 ∨ T = 100 ∨ T = 103
structure KT (w w' : World) : Prop where
  os : w'.os = w.os
  tape : w'.tape = w.tape
  output : w'.output = w.output
  size : w.heap.size ≤ w'.heap.size
  block : ∀ (k : Nat) (cs : Array Value) (T : TypeId) (fr : Nat × Nat), w.heap[k]? = some (.cells cs T fr) → TB T → w'.heap[k]? = some (.cells cs T fr)
theorem KT.refl (w : World) : KT w w := ⟨rfl, rfl, rfl, Nat.le_refl _, fun _ _ _ _ h _ => h⟩
theorem KT.trans {a b c : World} (h : KT a b) (k : KT b c) : KT a c := ⟨k.os.trans h.os, k.tape.trans h.tape, k.output.trans h.output, Nat.le_trans h.size k.size, fun i cs T fr hb ht => k.block i cs T fr (h.block i cs T fr hb ht) ht⟩
theorem KT.of_below {w w' : World} (h : Below w.heap.size w w') : KT w w' := ⟨h.os, h.tape, h.output, h.size, fun k cs T fr hb _ => by rw [h.block k (Array.getElem?_eq_some_iff.1 hb).1]; exact hb⟩
theorem RT.mono {w w' : World} (hk : KT w w') : ∀ {t : Tm} {v : Value}, RT w t v → RT w' t v := by
  intro t v h
  induction h with
  | atom s => exact .atom s
  | pair a b x y r h _ _ i1 i2 => exact .pair a b x y r (hk.block r _ _ _ h (Or.inl rfl)) i1 i2
  | hash a x r h _ i1 => exact .hash a x r (hk.block r _ _ _ h (Or.inr (Or.inl rfl))) i1
  | lock k a x y r h _ _ i1 i2 => exact .lock k a x y r (hk.block r _ _ _ h (Or.inr (Or.inr rfl))) i1 i2
theorem RT.alike {w w' : World} (hh : w'.heap = w.heap) {t : Tm} {v : Value} (h : RT w t v) : RT w' t v := by
  induction h with
  | atom s => exact .atom s
  | pair a b x y r h _ _ i1 i2 => exact .pair a b x y r (by rw [hh]; exact h) i1 i2
  | hash a x r h _ i1 => exact .hash a x r (by rw [hh]; exact h) i1
  | lock k a x y r h _ _ i1 i2 => exact .lock k a x y r (by rw [hh]; exact h) i1 i2
theorem RT.drewN {w : World} {t : Tm} {v : Value} (h : RT w t v) (n : Nat) : RT (w.drewN n) t v := RT.alike (w := w) (w' := w.drewN n) rfl h
theorem KT.drewN {w w' : World} (h : KT w w') (n : Nat) : KT w (w'.drewN n) := ⟨h.os, h.tape, h.output, h.size, h.block⟩
theorem RO.mono {w w' : World} (hk : KT w w') : ∀ {t : Option Tm} {v : Value}, RO w t v → RO w' t v
  | some _, _, h => RT.mono hk h
  | none, _, h => h
theorem RT.not_nil {w : World} {t : Tm} {v : Value} (h : RT w t v) : v ≠ .nilIface := by cases h <;> simp
/-- cells of a block -/
theorem cell_at {w : World} {r : Nat} {cs : Array Value} {T : TypeId} {fr : Nat × Nat} (h : w.heap[r]? = some (.cells cs T fr)) (j : Nat) : w.cell? ⟨r, j, none⟩ = cs[j]? := by simp [World.cell?, h]
end Go.Proofs.YthigfakjiknhcaaDoorT
