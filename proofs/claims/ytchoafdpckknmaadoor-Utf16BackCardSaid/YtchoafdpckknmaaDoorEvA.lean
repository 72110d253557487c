/- The evaluator's values, heap and plain operations. -/
import Derived.Orders
import Derived.Tactics
import Derived.Scope
import Derived.WalkKit
import Derived.KernelRfl
namespace Go.Proofs.YtchoafdpckknmaaDoorE
open Go

/-! ### shapes of data that nobody may write -/
inductive Sh where
 | int (k : IntKind)
 | bool
 | str
 | sl (s : Sh)
 | ar (k : IntKind)
 | pr (a b : Sh)
 | st (s : Sh)
 | tu (s : Sh)

/-- the data of a shape -/
@[reducible] def Sh.T : Sh → Type
 | .int _ => Int
 | .bool => Bool
 | .str => List UInt8
 | .sl s => List s.T
 | .ar _ => List Int
 | .pr a b => a.T × b.T
 | .st s => s.T
 | .tu s => s.T
def Sh.size : Sh → Nat
 | .pr a b => a.size + b.size
 | .st s => s.size
 | .ar _ | .tu _ => 0
 | _ => 1
/-- one value -/
def Sh.plain : Sh → Bool
 | .pr _ _ | .tu _ => false
 | _ => true
/-- the same shape? -/
def Sh.same : (a b : Sh) → Option (PLift (a = b))
 | .int k, .int k' => if h : k = k' then some ⟨by rw [h]⟩ else none
 | .bool, .bool => some ⟨rfl⟩
 | .str, .str => some ⟨rfl⟩
 | .sl a, .sl b => (Sh.same a b).map fun h => ⟨by rw [h.down]⟩
 | .ar k, .ar k' => if h : k = k' then some ⟨by rw [h]⟩ else none
 | .pr a b, .pr c d => (Sh.same a c).bind fun h => (Sh.same b d).map fun g => ⟨by rw [h.down, g.down]⟩
 | .st a, .st b => (Sh.same a b).map fun h => ⟨by rw [h.down]⟩
 | .tu a, .tu b => (Sh.same a b).map fun h => ⟨by rw [h.down]⟩
 | _, _ => none
def Sh.cast {a b : Sh} (h : PLift (a = b)) (l : List a.T) : List b.T := h.down ▸ l

mutual
inductive V where
 | int (k : IntKind) (n : Int)
 | bool (b : Bool)
 | str (s : List UInt8)
 | nilp
 | ptr (b off : Nat)
 | rptr (c : C)
 | nils
 /-- a slice of no elements and of no capacity, nil or not -/
 | ez
 /-- a slice of no elements that is not nil -/
 | en
 | sl (b off len : Nat) (cap : Option Nat) (sz : Nat)
 | rs (len : Nat) (c : C)
 /-- a slice of typed data that nobody may write -/
 | tb (s : Sh) (l : List s.T)
 | fn (f : Nat) (caps : List V)
 | nilf
 | nili
 | agg (c : C)
 | tup (l : List V)
 | undef
inductive C where
 | ints (k : IntKind) (l : List Int)
 | vals (l : List V)
 | imm (l : List V)
end

instance : Inhabited V := ⟨.undef⟩

inductive Blk where
 | cells (ro : Bool) (c : C)
 | iter (s : List UInt8) (pos : Nat)
 | dead

namespace C
def len : C → Nat
 | .ints _ l => l.length
 | .vals l => l.length
 | .imm l => l.length
def get : C → Nat → Option V
 | .ints k l, j => (l[j]?).map (V.int k)
 | .vals l, j => l[j]?
 | .imm l, j => l[j]?
def sub (o n : Nat) : C → C
 | .ints k l => .ints k ((l.drop o).take n)
 | .vals l => .vals ((l.drop o).take n)
 | .imm l => .imm ((l.drop o).take n)
def drop (o : Nat) : C → C
 | .ints k l => .ints k (l.drop o)
 | .vals l => .vals (l.drop o)
 | .imm l => .imm (l.drop o)
def toL : C → List V
 | .ints k l => l.map (V.int k)
 | .vals l => l
 | .imm l => l
def isImm : C → Bool
 | .imm _ => true
 | _ => false
end C

/-- one cell of memory holds it -/
def V.isCell : V → Bool
 | .agg _ | .tup _ | .undef => false
 | _ => true

/-- it names no block of the evaluator's heap -/
def V.idf : V → Bool
 | .int .. | .bool _ | .str _ | .nilp | .nils | .ez | .en | .nilf | .nili | .rptr _ | .rs .. | .tb .. => true
 | .fn _ [] => true
 | _ => false

namespace C
def one : V → C
 | .int k n => .ints k [n]
 | v => .vals [v]
/-- all cells are cells -/
def ok : C → Bool
 | .ints _ _ => true
 | .vals l => l.all V.isCell
 | .imm l => l.all fun v => v.isCell && v.idf
def set : C → Nat → V → Option C
 | .ints k l, j, .int k' n => if k = k' ∧ j < l.length then some (.ints k (l.set j n)) else none
 | .vals l, j, v => if j < l.length ∧ v.isCell = true then some (.vals (l.set j v)) else none
 | .imm l, j, v => if j < l.length ∧ v.isCell = true ∧ v.idf = true then some (.imm (l.set j v)) else none
 | _, _, _ => none
/-- cells written over, from a place on -/
def put (c : C) (o : Nat) (d : C) : Option C :=
 match c with
 | .ints k l =>
  match d with
  | .ints k' m => if k = k' ∧ o + m.length ≤ l.length then some (.ints k (l.take o ++ m ++ l.drop (o + m.length))) else none
  | _ => none
 | .vals l => if o + d.len ≤ l.length then some (.vals (l.take o ++ d.toL ++ l.drop (o + d.len))) else none
 | .imm l =>
  match d with
  | .imm m => if o + m.length ≤ l.length then some (.imm (l.take o ++ m ++ l.drop (o + m.length))) else none
  | _ => none
/-- written over, or on behind what is known -/
def puta (c : C) (o : Nat) (d : C) : Option C :=
 match c.put o d with
 | some z => some z
 | none => match c, d with
  | .ints k l, .ints k' m => if k = k' ∧ o ≤ l.length then some (.ints k (l.take o ++ m)) else none
  | _, _ => none
def app : C → C → Option C
 | .imm [], d => some d
 | .ints k l, .imm [] => some (.ints k l)
 | .ints k l, .ints k' m => if k = k' then some (.ints k (l ++ m)) else none
 | .vals l, d => some (.vals (l ++ d.toL))
 | .imm l, .imm m => some (.imm (l ++ m))
 | .imm l, .vals m => if m.all V.idf then some (.imm (l ++ m)) else none
 | _, _ => none
/-- n times the same cells -/
def rep (n : Nat) : C → Option C
 | .ints k [x] => some (.ints k (List.replicate n x))
 | .ints k l => some (.ints k (List.replicate n l).flatten)
 | .vals l => some (.vals (List.replicate n l).flatten)
 | _ => none
/-- numbers of one kind as such -/
def toInts (k : IntKind) : List V → Option (List Int)
 | [] => some []
 | .int k' n :: r => if k = k' then (toInts k r).map (n :: ·) else none
 | _ :: _ => none
end C

def V.cellsC : V → Option C
 | .agg c => some c
 | .tup _ | .undef => none
 | v => some (C.one v)

/-- a row's cells -/
def Sh.cells : (s : Sh) → s.T → List V
 | .int k, r => [.int k r]
 | .bool, r => [.bool r]
 | .str, r => [.str r]
 | .sl s, r => [.tb s r]
 | .ar _, _ => []
 | .pr a b, r => a.cells r.1 ++ b.cells r.2
 | .st s, r => s.cells r
 | .tu _, _ => []
def flat (s : Sh) (l : List s.T) : List V := l.flatMap s.cells
mutual
/-- data as a value -/
def Sh.enc : (s : Sh) → s.T → V
 | .int k, r => .int k r
 | .bool, r => .bool r
 | .str, r => .str r
 | .sl s, r => .tb s r
 | .ar k, r => .agg (.ints k r)
 | .pr _ _, _ => .undef
 | .st s, r => .agg (.vals (s.cells r))
 | .tu s, r => .tup (s.encs r)
def Sh.encs : (s : Sh) → s.T → List V
 | .pr a b, r => a.enc r.1 :: b.encs r.2
 | .int k, r => [.int k r]
 | .bool, r => [.bool r]
 | .str, r => [.str r]
 | .sl s, r => [.tb s r]
 | .ar k, r => [.agg (.ints k r)]
 | .st s, r => [.agg (.vals (s.cells r))]
 | .tu _, _ => []
end
/-- a typed slice as an untyped one -/
def tbRs : (s : Sh) → List s.T → V
 | .int k, l => .rs l.length (.ints k l)
 | s, l => .rs l.length (.imm (flat s l))

abbrev Env := List (Nat × V)
def look : Env → Nat → V
 | [], _ => .undef
 | (t, v) :: r, u => if t = u then v else look r u

inductive R where
 | s (t : Nat)
 | c (v : V)
def R.ev (e : Env) : R → V
 | .s t => look e t
 | .c v => v

/-- of which types '==' is asked -/
inductive Tag where
 | b | p | s | f

inductive O where
 | mv (x : R)
 | pick (c a b : R)
 | new (z : C)
 | box (x : R)
 | build (z : C) (ps : List (Nat × Nat × R))
 | bsl (len sz : Nat) (z : C) (ps : List (Nat × Nat × R))
 | ldc (x : R)
 | lda (n : Nat) (k : Option IntKind) (x : R)
 | stc (n : Nat) (x y : R)
 | nilc (x : R)
 | bin (op : BinOp) (x y : R)
 | eqn (t : Tag) (neg : Bool) (x y : R)
 | eqa (n : Nat) (neg : Bool) (x y : R)
 | un (op : UnOp) (x : R)
 | cvi (k : IntKind) (x : R)
 | s2b (x : R)
 | b2s (x : R)
 | s2a (n : Nat) (x : R)
 | mkf (f : Nat) (caps : List R)
 | mks (z : C) (sz bytes : Nat) (l c : R)
 | ssl (x : R) (lo hi : Option R)
 | sls (sz : Nat) (x : R) (lo hi mx : Option R)
 | sla (n sz : Nat) (x : R) (lo hi mx : Option R)
 | fad (off : Nat) (x : R)
 | fld (off n : Nat) (a : Bool) (k : Option IntKind) (x : R)
 | iad (sz : Nat) (x i : R)
 | iaa (n sz : Nat) (x i : R)
 | ixa (n sz : Nat) (a : Bool) (k : Option IntKind) (x i : R)
 | ixs (x i : R)
 | rng (x : R)
 | nxt (x : R)
 | ext (x : R) (i : Nat)
 | len (s : Bool) (x : R)
 | lenc (n : Nat)
 | mnx (mx : Bool) (xs : List R)
 | app (sz bytes : Nat) (x y : R)
 /-- so many elements of zeros appended -/
 | apz (sz bytes : Nat) (z : C) (x n : R)
 | cap (x : R)
 | cpy (sz : Nat) (x y : R)
 /-- loads that look at data that nobody may write, alone -/
 | ldr (x : R)
 | lra (n : Nat) (k : Option IntKind) (x : R)
 | slr (n sz : Nat) (x : R) (lo hi mx : Option R)
 /-- a slice of bytes that was just made, turned to its own kind: nobody writes it from there on -/
 | cvs (x : R)
 /-- the same, but it stays what it is: a slice that one may write -/
 | cvm (x : R)
 | clr (sz : Nat) (z : C) (x : R)
 | call (f : R) (xs : List R)
 | bad

structure Op where
 dst : Option Nat
 o : O
 guard : Option (Nat × Bool)
 /-- the numbers of the operations that come ahead, whatever the order -/
 wait : List Nat

/-- what is done between two pieces of code: values of slots typed; all but what is kept forgotten, the blocks numbered anew; slots that hold nothing made ready to grow -/
structure Trim where
 /-- a loop's number in the text -/
 no : Nat
 ty : List (Nat × Sh)
 all : Bool
 keep : List Nat
 gr : List (Nat × C × Nat)

inductive K where
 | skip
 | region (ops : List Op) (draw : Bool)
 | seq (a b : K)
 | cond (c : R) (x y : K)
 | block (id : Nat) (b : K)
 | loop (t : Trim) (b : K)
 /-- a trim, and code behind it -/
 | pre (t : Trim) (b : K)
 | exit (id : Nat)
 | scope (b : K)
 | label (l : Nat)
 | goto (l : Nat)
 | ret
 /-- within a scope: what is left of it, and it whole -/
 | rsm (rest b : K)
 | bad

inductive Res where
 | tmp (t : Nat)
 | cell (t : Nat) (n : Nat) (a : Bool) (k : Option IntKind)

structure Fun where
 nparams : Nat
 ntmps : Nat
 vars : List Nat
 res : List Res
 body : K
 /-- its arguments that are slices are handed over as they are, not lent -/
 own : Bool := false
 /-- the shapes of its arguments and of its result, if it is handed data alone -/
 ash : Option (List Sh) := none
 rsh : Option Sh := none
 /-- it only looks at what its pointers lead to: that is lent, too -/
 rd : Bool := false
end Go.Proofs.YtchoafdpckknmaaDoorE
