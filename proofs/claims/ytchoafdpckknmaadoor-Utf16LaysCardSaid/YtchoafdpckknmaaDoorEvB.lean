/- The evaluator. -/
import Derived.Test.YtchoafdpckknmaaDoorEvA
namespace Go.Proofs.YtchoafdpckknmaaDoorE
open Go

/-! ### numbers, bools, texts -/
def vint (op : BinOp) (k : IntKind) (a b : Int) : Option V :=
 match op with
 | .add => some (.int k (k.wrap (a + b)))
 | .sub => some (.int k (k.wrap (a - b)))
 | .mul => some (.int k (k.wrap (a * b)))
 | .quo => if b = 0 then none else some (.int k (k.wrap (a.tdiv b)))
 | .rem => if b = 0 then none else some (.int k (a.tmod b))
 | .and => some (.int k (k.wrap (BitVec.ofInt k.bits a &&& BitVec.ofInt k.bits b).toNat))
 | .or => some (.int k (k.wrap (BitVec.ofInt k.bits a ||| BitVec.ofInt k.bits b).toNat))
 | .xor => some (.int k (k.wrap (BitVec.ofInt k.bits a ^^^ BitVec.ofInt k.bits b).toNat))
 | .andNot => some (.int k (k.wrap (BitVec.ofInt k.bits a &&& ~~~BitVec.ofInt k.bits b).toNat))
 | .eql => some (.bool (a == b))
 | .neq => some (.bool (a != b))
 | .lss => some (.bool (a < b))
 | .leq => some (.bool (a ≤ b))
 | .gtr => some (.bool (a > b))
 | .geq => some (.bool (a ≥ b))
 | _ => none
def vshift (op : BinOp) (k : IntKind) (a b : Int) : Option V :=
 if b < 0 then none else
 match op with
 | .shl => some (.int k (k.wrap (a * 2 ^ (min b.toNat k.bits))))
 | .shr => some (.int k (a.fdiv (2 ^ (min b.toNat k.bits))))
 | _ => none
def vstr (op : BinOp) (a b : List UInt8) : Option V :=
 match op with
 | .add => if a.length + b.length < 2 ^ 60 then some (.str (a ++ b)) else none
 | .eql => some (.bool (a == b))
 | .neq => some (.bool !(a == b))
 | .lss => some (.bool (Op.bytesLess a b))
 | .leq => some (.bool (Op.bytesLess a b || a == b))
 | .gtr => some (.bool !(Op.bytesLess a b || a == b))
 | .geq => some (.bool !(Op.bytesLess a b))
 | _ => none
def isShift : BinOp → Bool
 | .shl | .shr => true
 | _ => false
def vbin (op : BinOp) : V → V → Option V
 | .int k a, .int k' b => if isShift op then vshift op k a b else if k = k' then vint op k a b else none
 | .str a, .str b => vstr op a b
 | _, _ => none
def vun (op : UnOp) : V → Option V
 | .bool b => match op with | .not => some (.bool !b) | _ => none
 | .int k n =>
  match op with
  | .neg => vint .sub k 0 n
  | .xor => vint .xor k (if k.signed then -1 else k.max) n
  | _ => none
 | _ => none
def isCells (H : List Blk) (b : Nat) : Bool :=
 match H[b]? with
 | some (.cells _ _) => true
 | _ => false
/-- '==' beside numbers and texts -/
def veq (H : List Blk) (t : Tag) (p q : V) : Option Bool :=
 match t with
 | .b =>
  match p, q with
  | .bool a, .bool b => some (a == b)
  | _, _ => none
 | .p =>
  match p, q with
  | .nilp, .nilp => some true
  | .nilp, .ptr .. => some false
  | .nilp, .rptr _ => some false
  | .ptr .., .nilp => some false
  | .rptr _, .nilp => some false
  | .ptr b o, .ptr b' o' => if isCells H b && b == b' then some (o == o') else none
  | _, _ => none
 | .s =>
  match p, q with
  | .nils, .nils => some true
  | .sl _ _ len _ _, .nils => if 0 < len then some false else none
  | .rs len c, .nils => if 0 < len ∧ 0 < c.len then some false else none
  | .tb s l, .nils => if 0 < l.length ∧ 0 < s.size then some false else none
  | .en, .nils => some false
  | _, _ => none
 | .f =>
  match p, q with
  | .nilf, .nilf => some true
  | .fn .., .nilf => some false
  | .nilf, .fn .. => some false
  | _, _ => none

/-! ### slices -/
def bnd : V → Nat → Option Nat
 | .int _ i, y => if 0 ≤ i ∧ i ≤ (y : Int) then some i.toNat else none
 | _, _ => none
def bndO (d : Nat) : Option V → Nat → Option Nat
 | none, _ => some d
 | some v, y => bnd v y
/-- low, high, and the end of the capacity, if that is told -/
def bnds (len : Nat) (cap : Option Nat) (lo hi mx : Option V) : Option (Nat × Nat × Option Nat) :=
 match mx with
 | some m => (bnd m (cap.getD len)).bind fun m' => (hi.bind fun h => bnd h m').bind fun h' => (bndO 0 lo h').map fun l => (l, h', some m')
 | none => (bndO len hi (cap.getD len)).bind fun h' => (bndO 0 lo h').map fun l => (l, h', cap)

/-- the cells that a slice, or a text, has -/
def src (H : List Blk) (sz : Nat) : V → Option (Nat × C)
 | .nils | .ez | .en => some (0, .imm [])
 | .str s => if sz = 1 then some (s.length, .ints .u8 (s.map fun b => (b.toNat : Int))) else none
 | .rs len c => if c.len = len * sz then some (len, c) else none
 | .tb s l => if s.size = sz then (match s, l with | .int k, l => some (l.length, .ints k l) | s, l => some (l.length, .imm (flat s l))) else none
 | .sl b off len _ _ =>
  match H[b]? with
  | some (.cells _ c) => if off + len * sz ≤ c.len then some (len, c.sub off (len * sz)) else none
  | _ => none
 | _ => none

/-! ### a value under other numbers of blocks -/
def ren (g : Nat → Option Nat) : Nat → V → Option V
 | 0, _ => none
 | n + 1, v =>
  match v with
  | .ptr b o => (g b).map fun b' => .ptr b' o
  | .sl b off len cap sz => (g b).map fun b' => .sl b' off len cap sz
  | .fn f caps => (caps.mapM (ren g n)).map (.fn f)
  | .agg (.vals l) => (l.mapM (ren g n)).map fun l => .agg (.vals l)
  | .tup l => (l.mapM (ren g n)).map .tup
  | v => some v
def renB (g : Nat → Option Nat) (n : Nat) : Blk → Option Blk
 | .cells ro (.vals l) => (l.mapM (ren g n)).map fun l => .cells ro (.vals l)
 | b => some b
def idx : List Nat → Nat → Option Nat
 | [], _ => none
 | a :: r, b => if a = b then some 0 else (idx r b).map (· + 1)
def inside : V → List V
 | .fn _ caps => caps
 | .agg (.vals l) => l
 | .tup l => l
 | _ => []
def blockOf : V → Option Nat
 | .ptr b _ => some b
 | .sl b _ _ _ _ => some b
 | _ => none
def held (H : List Blk) (b : Nat) : List V :=
 match H[b]? with
 | some (.cells _ (.vals l)) => l
 | _ => []
/-- the blocks that values lead to, in the order in which they are met -/
def reach (H : List Blk) : Nat → List V → List Nat → List Nat
 | 0, _, acc => acc
 | _, [], acc => acc
 | n + 1, v :: r, acc =>
  match blockOf v with
  | some b => if acc.contains b then reach H n r acc else reach H n (held H b ++ r) (acc ++ [b])
  | none => reach H n (inside v ++ r) acc
def deep : Nat := 12
def far : Nat := 100000
/-- only what the roots lead to, numbered anew; the first n0 blocks stay -/
def compact (n0 : Nat) (roots : List V) (H : List Blk) : Option (List V × List Blk) :=
 let L := reach H far (roots ++ (List.range n0).flatMap (held H)) (List.range n0)
 (roots.mapM (ren (idx L) deep)).bind fun vs => (L.mapM fun i => (H[i]?).bind (renB (idx L) deep)).map fun H' => (vs, H')

/-! ### what a call is handed -/
/-- a box's content, if it may be lent -/
def asR (c : C) : Option C := if c.isImm then some c else match c with | .vals l => if l.all V.idf then some (.imm l) else none | .ints k l => some (.ints k l) | _ => none
/-- slices as what they hold (L: the blocks that may be lent) -/
def lend (H : List Blk) (L : List Nat) : Nat → V → Option V
 | 0, _ => none
 | n + 1, v =>
  match v with
  | .sl b off len _ sz =>
   if !L.contains b then none else
   match H[b]? with
   | some (.cells _ c) =>
    if off + len * sz ≤ c.len then
     match c.sub off (len * sz) with
     | .vals l => (l.mapM (lend H L n)).bind fun l' => if l'.all V.idf then some (.rs len (.imm l')) else none
     | c' => some (.rs len c')
    else none
   | _ => none
  | .ptr b o =>
   if !L.contains b then some (.ptr b o) else
   match H[b]? with
   | some (.cells _ c) => (asR c).map fun c => .rptr (c.drop o)
   | _ => none
  | .agg (.vals l) => (l.mapM (lend H L n)).map fun l' => .agg (.vals l')
  | .tup _ | .undef => none
  | v => some v
/-- does something immutable stand in it? -/
def hasRs : Nat → V → Bool
 | 0, _ => true
 | n + 1, v =>
  match v with
  | .rs .. | .rptr _ | .tb .. => true
  | .fn _ caps => caps.any (hasRs n)
  | .agg (.vals l) => l.any (hasRs n)
  | .agg (.imm _) => true
  | .tup l => l.any (hasRs n)
  | _ => false
def hasRsB : Blk → Bool
 | .cells _ (.vals l) => l.any (hasRs deep)
 | .cells _ (.imm l) => !l.isEmpty
 | _ => false
def freeze (L : List Nat) : List Blk → List Blk :=
 fun H => H.zipIdx.map fun (b, i) => if L.contains i then match b with | .cells _ c => .cells true c | b => b else b
def putBack (H : List Blk) : List (Nat × Blk) → List Blk
 | [] => H
 | (i, b) :: r => putBack (H.set i b) r
def byId : V → Bool
 | .ptr .. | .fn .. => true
 | _ => false

/-! ### data out of values -/
mutual
/-- cells as data of a shape, and what is left of them -/
def ofCells (H : List Blk) (FL : List Nat) : Nat → (s : Sh) → List V → Option (s.T × List V)
 | 0, _, _ => none
 | n + 1, s, l =>
  match s with
  | .int k => match l with | .int k' x :: r => if k = k' then some (x, r) else none | _ => none
  | .bool => match l with | .bool x :: r => some (x, r) | _ => none
  | .str => match l with | .str x :: r => some (x, r) | _ => none
  | .sl s => match l with | v :: r => (toL H FL n s v).map fun x => (x, r) | _ => none
  | .pr a b => (ofCells H FL n a l).bind fun p => (ofCells H FL n b p.2).map fun q => ((p.1, q.1), q.2)
  | .st s => ofCells H FL n s l
  | .ar _ | .tu _ => none
def ofRows (H : List Blk) (FL : List Nat) : Nat → (s : Sh) → Nat → List V → Option (List s.T)
 | 0, _, _, _ => none
 | n + 1, s, len, l =>
  match len with
  | 0 => match l with | [] => some [] | _ => none
  | len + 1 => (ofCells H FL n s l).bind fun p => (ofRows H FL n s len p.2).map fun q => p.1 :: q
/-- a slice's data -/
def toL (H : List Blk) (FL : List Nat) : Nat → (s : Sh) → V → Option (List s.T)
 | 0, _, _ => none
 | n + 1, s, v =>
  match v with
  | .nils | .ez | .en => some []
  | .tb s' l => (Sh.same s' s).map fun h => Sh.cast h l
  | .sl b off len _ sz =>
   if !FL.contains b then none else
   if sz ≠ s.size then none else
   match H[b]? with
   | some (.cells _ c) =>
    if off + len * sz ≤ c.len then
     match c with
     | .ints k l => match s with | .int k' => if k' = k then some ((l.drop off).take len) else none | _ => none
     | c => ofRows H FL n s len (c.sub off (len * sz)).toL
    else none
   | _ => none
  | _ => none
end
def toInt (k : IntKind) : V → Option Int
 | .int k' n => if k = k' then some n else none
 | _ => none
mutual
def toT (H : List Blk) (FL : List Nat) : (s : Sh) → V → Option s.T
 | .int k, v => toInt k v
 | .bool, v => match v with | .bool b => some b | _ => none
 | .str, v => match v with | .str b => some b | _ => none
 | .sl s, v => toL H FL far s v
 | .ar k, v => match v with | .agg (.ints k' l) => if k = k' then some l else none | .agg c => C.toInts k c.toL | _ => none
 | .st s, v => match v with | .agg c => (ofCells H FL far s c.toL).bind fun p => if p.2.isEmpty then some p.1 else none | _ => none
 | .tu s, v => match v with | .tup l => toTs H FL s l | _ => none
 | .pr _ _, _ => none
def toTs (H : List Blk) (FL : List Nat) : (s : Sh) → List V → Option s.T
 | .pr a b, l => match l with | v :: r => (toT H FL a v).bind fun x => (toTs H FL b r).map fun y => (x, y) | _ => none
 | .int k, l => match l with | [v] => toInt k v | _ => none
 | .bool, l => match l with | [.bool b] => some b | _ => none
 | .str, l => match l with | [.str b] => some b | _ => none
 | .sl s, l => match l with | [v] => toL H FL far s v | _ => none
 | .ar k, l => match l with | [.agg (.ints k' l)] => if k = k' then some l else none | [.agg c] => C.toInts k c.toL | _ => none
 | .st s, l => match l with | [.agg c] => (ofCells H FL far s c.toL).bind fun p => if p.2.isEmpty then some p.1 else none | _ => none
 | .tu _, _ => none
end
/-- values as data, and back -/
def typed (H : List Blk) (FL : List Nat) : List Sh → List V → Option (List V)
 | [], [] => some []
 | s :: S, v :: l => if !s.plain then none else (toT H FL s v).bind fun x => (typed H FL S l).map fun r => s.enc x :: r
 | _, _ => none

structure Mode where
 own : Bool
 ash : Option (List Sh)
 rd : Bool
abbrev CallF := Nat → List V → List Blk → Option (V × List Blk)
/-- a call that is handed data alone -/
def callT (ev : CallF) (S : List Sh) (g : Nat) (all : List V) (H : List Blk) : Option (V × List Blk × Bool) :=
 let FL := reach H far all []
 (typed H FL S all).bind fun ys =>
 (ev g ys []).bind fun (r, Hc') =>
 (ren (fun j => some (H.length + j)) deep r).bind fun r' =>
 (Hc'.mapM (renB (fun j => some (H.length + j)) deep)).map fun Hb =>
 if (hasRs deep r && !FL.isEmpty) || Hc'.any hasRsB then (r', freeze FL H ++ Hb, false) else (r', H ++ Hb, true)
/-- a call: its value, the heap behind it; true: nothing that was there is another one -/
def callEv (ev : CallF) (own : Nat → Mode) (f : V) (xs : List V) (H : List Blk) : Option (V × List Blk × Bool) :=
 match f with
 | .fn g caps =>
  let all := xs ++ caps
  match (own g).ash with
  | some S => callT ev S g all H
  | none =>
  let keep := if (own g).own then all else if (own g).rd then [] else all.filter byId
  let L := reach H far keep []
  let FL := (reach H far all []).filter fun i => !L.contains i
  ((if (own g).own then some all else all.mapM (lend H FL deep)).bind fun ys => ys.mapM (ren (idx L) deep)).bind fun zs =>
  (L.mapM fun i => (H[i]?).bind (renB (idx L) deep)).bind fun Hc =>
  (ev g zs Hc).bind fun (r, Hc') =>
  if Hc'.length < L.length then none else
  let back : Nat → Option Nat := fun j => if j < L.length then L[j]? else some (H.length + (j - L.length))
  (ren back deep r).bind fun r' =>
  (Hc'.mapM (renB back deep)).map fun Hb =>
  let fr := hasRs deep r || Hc'.any hasRsB
  if L.isEmpty && !fr then (r', H ++ Hb, true)
  else
   let H1 := if fr then freeze FL H else H
   (r', putBack H1 (L.zip (Hb.take L.length)) ++ Hb.drop L.length, false)
 | _ => none
end Go.Proofs.YtchoafdpckknmaaDoorE
