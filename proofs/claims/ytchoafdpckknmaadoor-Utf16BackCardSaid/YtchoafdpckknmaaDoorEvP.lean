/- The machine's operations as the evaluator's. -/
import Derived.Test.YtchoafdpckknmaaDoorEvSb
namespace Go.Proofs.YtchoafdpckknmaaDoorE
open Go
set_option linter.unusedSimpArgs false
set_option linter.unusedVariables false

abbrev EOp := O

def refOf (m : Nat → Option Nat) : Operand → Option R
 | .tmp t => some (.s t)
 | .const v => (ofValue v).map .c
 | .func f => (m f).map fun g => .c (.fn g [])
 | .global g => (tabs g).map fun t => .c (.rptr (.ints t.1 t.2))
/-- a type's zero: its row, its value, its content -/
def zOf (P : Program) (t : TypeId) : Option (TypeInfo × Value × C) :=
 (P.info? t).bind fun i => i.zero.bind fun zv => (contentOf zv.cells.toList).bind fun c => if zv.cells.size = i.size then some (i, zv, c) else none
def kOf (P : Program) (t : TypeId) : Option IntKind :=
 match zOf P t with
 | some (_, _, .ints k _) => some k
 | _ => none
def optR (m : Nat → Option Nat) : Option Operand → Option (Option R)
 | none => some none
 | some x => (refOf m x).map some
def places (P : Program) (fs : List Field) : Option (List (Nat × Nat)) := fs.mapM fun f => (P.info? f.type).map fun i => (f.offset, i.size)
def partsOf (m : Nat → Option Nat) (place : Nat → Option (Nat × Nat)) : List (Nat × Operand) → Option (List (Nat × Nat × R))
 | [] => some []
 | (i, x) :: r => (place i).bind fun on => (refOf m x).bind fun y => (partsOf m place r).map fun l => (on.1, on.2, y) :: l
def tagOf (P : Program) (d : TypeDesc) : Option Tag :=
 if tagD P .b d then some .b else if tagD P .p d then some .p else if tagD P .s d then some .s else if tagD P .f d then some .f else none
/-- an array of numbers -/
def intsOf (P : Program) (d : TypeDesc) : Option Nat :=
 match d with
 | .array n e =>
  match P.underlying e, P.info? e with
  | some (.int _), some i => if i.size = 1 then some n else none
  | _, _ => none
 | _ => none

/-- a struct of whole numbers, and of arrays of such: how many -/
def fieldsInts (P : Program) : List Field → Nat → Option Nat
 | [], o => some o
 | f :: fs, o =>
  if f.offset ≠ o ∨ f.name = "_" then none else
  match P.underlying f.type with
  | some (.int _) => fieldsInts P fs (o + 1)
  | some (.array n e) =>
   match P.underlying e, P.info? e, P.info? f.type with
   | some (.int _), some i, some j => if i.size = 1 ∧ j.size = n then fieldsInts P fs (o + n) else none
   | _, _, _ => none
  | _ => none
def structInts (P : Program) (t : TypeId) (d : TypeDesc) : Option Nat :=
 match d with
 | .struct fs => if P.stoodInHeld t then none else fieldsInts P fs.toList 0
 | _ => none
def intsOr (P : Program) (t : TypeId) (d : TypeDesc) : Option Nat :=
 match intsOf P d with
 | some n => some n
 | none => structInts P t d

def compBuiltin (P : Program) (m : Nat → Option Nat) (b : Builtin) (ts : Array TypeId) (xs : Array Operand) : Option O :=
 match b, ts.toList, xs.toList with
 | .len, [t], [x] =>
  match P.underlying t with
  | some .string => (refOf m x).map (.len true)
  | some (.slice _) => (refOf m x).map (.len false)
  | some (.array n _) => some (.lenc n)
  | some (.pointer a) => match P.underlying a with | some (.array n _) => some (.lenc n) | _ => none
  | _ => none
 | .cap, [t], [x] =>
  match P.underlying t with
  | some (.slice _) => (refOf m x).map .cap
  | _ => none
 | .min, _, xs => (xs.mapM (refOf m)).map (.mnx false)
 | .max, _, xs => (xs.mapM (refOf m)).map (.mnx true)
 | .append, [t, u], [x, y] =>
  match P.underlying t, P.underlying u with
  | some (.slice el), some d => if isIntD d then (zOf P el).bind fun z => (refOf m x).bind fun a => (refOf m y).map fun b => .apz z.1.size z.1.bytes z.2.2 a b else (zOf P el).bind fun z => (refOf m x).bind fun a => (refOf m y).map fun b => .app z.1.size z.1.bytes a b
  | _, _ => none
 | .copy, [t, _], [x, y] =>
  match P.underlying t with
  | some (.slice el) => (P.info? el).bind fun i => (refOf m x).bind fun a => (refOf m y).map fun b => .cpy i.size a b
  | _ => none
 | .clear, [t], [x] =>
  match P.underlying t with
  | some (.slice el) => (zOf P el).bind fun z => (refOf m x).map fun a => .clr z.1.size z.2.2 a
  | _ => none
 | _, _, _ => none

def compO (P : Program) (m : Nat → Option Nat) (op : Go.Op) : Option O :=
 match op with
 | .move x => (refOf m x).map .mv
 | .assign x => (refOf m x).map .mv
 | .pick c a b => (refOf m c).bind fun c => (refOf m a).bind fun a => (refOf m b).map fun b => .pick c a b
 | .alloc t => (zOf P t).map fun z => .new z.2.2
 | .box _ x => (refOf m x).map .box
 | .build t ps =>
  match P.underlying t with
  | some (.struct fs) => (zOf P t).bind fun z => (places P fs.toList).bind fun pl => (partsOf m (pl[·]?) ps.toList).map fun l => .build z.2.2 l
  | some (.array _ el) => (zOf P t).bind fun z => (P.info? el).bind fun j => (partsOf m (fun i => some (i * j.size, j.size)) ps.toList).map fun l => .build z.2.2 l
  | _ => none
 | .buildSlice t len ps =>
  match P.underlying t with
  | some (.slice el) => (zOf P el).bind fun z => (contentOf (List.replicate len z.2.1.cells.toList).flatten).bind fun c => (partsOf m (fun i => some (i * z.1.size, z.1.size)) ps.toList).map fun l => .bsl len z.1.size c l
  | _ => none
 | .load t x =>
  match P.underlying t with
  | some d => if isAggD d then (P.info? t).bind fun i => (refOf m x).map fun r => .lda i.size (kOf P t) r else (refOf m x).map .ldc
  | none => none
 | .store t x y => (P.info? t).bind fun i => (refOf m x).bind fun a => (refOf m y).map fun b => .stc i.size a b
 | .nilCheck x => (refOf m x).map .nilc
 | .binOp op t x y _ =>
  (refOf m x).bind fun a => (refOf m y).bind fun b =>
  if op = .eql ∨ op = .neq then
   (P.underlying t).bind fun d =>
   match d with
   | .int _ | .string => some (.bin op a b)
   | d =>
    match tagOf P d with
    | some tg => some (.eqn tg (op = .neq) a b)
    | none => if P.eqGuardType P.depth t then none else (intsOr P t d).map fun n => .eqa n (op = .neq) a b
  else some (.bin op a b)
 | .unOp op _ x => (refOf m x).map (.un op)
 | .convert s d x =>
  match P.underlying s, P.underlying d with
  | some (.int _), some (.int k) => (refOf m x).map (.cvi k)
  | some .string, some (.slice e) => match P.underlying e with | some (.int .u8) => (refOf m x).map .s2b | _ => none
  | some (.slice e), some .string => match P.underlying e with | some (.int .u8) => (refOf m x).map .b2s | _ => none
  | some (.slice _), some (.slice e) => if s == d then match P.underlying e with | some (.int .u8) => (refOf m x).map .cvs | _ => none else none
  | _, _ => none
 | .sliceToArrayPointer t x =>
  match P.underlying t with
  | some (.array n _) => (refOf m x).map (.s2a n)
  | _ => none
 | .makeFunc (.func f) first caps => if first.isEmpty then (m f).bind fun g => (caps.toList.mapM (refOf m)).map fun l => .mkf g l else none
 | .makeSlice t l c =>
  match P.underlying t with
  | some (.slice el) => (zOf P el).bind fun z => (refOf m l).bind fun a => (refOf m c).map fun b => .mks z.2.2 z.1.size z.1.bytes a b
  | _ => none
 | .slice t x lo hi mx =>
  (refOf m x).bind fun a => (optR m lo).bind fun l => (optR m hi).bind fun h => (optR m mx).bind fun k =>
  match P.underlying t with
  | some .string => if mx.isSome then none else some (.ssl a l h)
  | some (.slice el) => (P.info? el).map fun i => .sls i.size a l h k
  | some (.array n el) => (P.info? el).map fun i => .sla n i.size a l h k
  | _ => none
 | .fieldAddr s x k =>
  match P.underlying s with
  | some (.struct fs) => (fs[k]?).bind fun f => (P.info? f.type).bind fun i => if i.size = 0 then none else (refOf m x).map fun a => .fad f.offset a
  | _ => none
 | .field s x k =>
  match P.underlying s with
  | some (.struct fs) => (fs[k]?).bind fun f => (P.underlying f.type).bind fun d => (P.info? f.type).bind fun i => (refOf m x).map fun a => .fld f.offset i.size (isAggD d) (kOf P f.type) a
  | _ => none
 | .indexAddr t x i =>
  match P.underlying t with
  | some (.slice el) => (P.info? el).bind fun j => (refOf m x).bind fun a => (refOf m i).map fun b => .iad j.size a b
  | some (.array n el) => (P.info? el).bind fun j => (refOf m x).bind fun a => (refOf m i).map fun b => .iaa n j.size a b
  | _ => none
 | .index t x i =>
  match P.underlying t with
  | some .string => (refOf m x).bind fun a => (refOf m i).map fun b => .ixs a b
  | some (.array n el) => (P.underlying el).bind fun d => (P.info? el).bind fun j => (refOf m x).bind fun a => (refOf m i).map fun b => .ixa n j.size (isAggD d) (kOf P el) a b
  | _ => none
 | .range t x =>
  match P.underlying t with
  | some .string => (refOf m x).map .rng
  | _ => none
 | .next x true => (refOf m x).map .nxt
 | .extract x i => (refOf m x).map fun a => .ext a i
 | .panic _ => some .bad
 | .makeInterface _ _ => some .bad
 | .call c =>
  match c.callee with
  | .builtin b => compBuiltin P m b c.argTypes c.args
  | .value f => (refOf m f).bind fun g => (c.args.toList.mapM (refOf m)).map fun l => .call g l
  | _ => none
 | _ => none
end Go.Proofs.YtchoafdpckknmaaDoorE
