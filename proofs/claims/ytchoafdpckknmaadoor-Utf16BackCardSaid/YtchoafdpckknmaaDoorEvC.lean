/- The evaluator: operations, code, functions. -/
import Derived.Test.YtchoafdpckknmaaDoorEvB
namespace Go.Proofs.YtchoafdpckknmaaDoorE
open Go

set_option linter.unusedVariables false

def asAgg (k : Option IntKind) (c : C) : Option V :=
 match k with
 | none => some (.agg c)
 | some k =>
  match c with
  | .ints k' l => if k = k' then some (.agg (.ints k l)) else none
  | c => (C.toInts k c.toL).map fun l => .agg (.ints k l)
def partC (o n : Nat) (a : Bool) (k : Option IntKind) (c : C) : Option V :=
 if a then (if o + n ≤ c.len then asAgg k (c.sub o n) else none) else c.get o
def putAll (e : Env) (z : C) : List (Nat × Nat × R) → Option C
 | [] => some z
 | (o, n, x) :: r => ((R.ev e x).cellsC).bind fun d => if d.len = n then (z.put o d).bind fun z => putAll e z r else none
/-- cells that name no block, told so -/
def tidy : C → C
 | .vals l => if l.all V.idf then .imm l else .vals l
 | c => c
def mm (mx : Bool) : V → List V → Option V
 | v, [] => some v
 | .int k a, .int k' b :: r => if k = k' then mm mx (.int k (if mx then (if b > a then b else a) else (if b < a then b else a))) r else none
 | _, _ => none

/-- has a block so many cells? -/
def fits (H : List Blk) (b k : Nat) : Bool :=
 match H[b]? with
 | some (.cells _ c) => k ≤ c.len
 | _ => false

def isStr : V → Bool
 | .str _ => true
 | _ => false

/-- a part of a list: from a place on, up to a place -/
def tsub {α : Type} (l : List α) (lo hi : Bool) (a b : Nat) : List α :=
 match lo, hi with
 | false, false => l
 | true, false => l.drop a
 | false, true => l.take b
 | true, true => (l.drop a).take (b - a)

/-- an operation that turns nothing that was there: its value, the new blocks -/
def evQ (o : O) (e : Env) (H : List Blk) : Option (V × List Blk) :=
 match o with
 | .mv x => some (x.ev e, [])
 | .pick c a b =>
  match c.ev e with
  | .bool true => some (a.ev e, [])
  | .bool false => some (b.ev e, [])
  | _ => none
 | .new z => some (.ptr H.length 0, [.cells false z])
 | .box x =>
  match x.ev e with
  | .agg c => some (.ptr H.length 0, [.cells false c])
  | v => if v.isCell then some (.ptr H.length 0, [.cells false (C.one v)]) else none
 | .build z ps => (putAll e z ps).map fun c => (.agg c, [])
 | .bsl len sz z ps => (putAll e z ps).bind fun c => if c.len = len * sz ∧ len * sz ≤ 2 ^ 20 then some (.sl H.length 0 len (some len) sz, [.cells false (tidy c)]) else none
 | .ldc x =>
  match x.ev e with
  | .ptr b o => match H[b]? with | some (.cells _ c) => (c.get o).map fun v => (v, []) | _ => none
  | .rptr c => (c.get 0).map fun v => (v, [])
  | _ => none
 | .lda n k x =>
  match x.ev e with
  | .ptr b o => match H[b]? with | some (.cells _ c) => (partC o n true k c).map fun v => (v, []) | _ => none
  | .rptr c => (partC 0 n true k c).map fun v => (v, [])
  | _ => none
 | .ldr x =>
  match x.ev e with
  | .rptr c => (c.get 0).map fun v => (v, [])
  | _ => none
 | .lra n k x =>
  match x.ev e with
  | .rptr c => (partC 0 n true k c).map fun v => (v, [])
  | _ => none
 | .slr n sz x lo hi mx =>
  match x.ev e with
  | .rptr c => (bnds n (some n) (lo.map (R.ev e)) (hi.map (R.ev e)) (mx.map (R.ev e))).bind fun (l, h, _) => if n * sz ≤ c.len then some (.rs (h - l) (c.sub (l * sz) ((h - l) * sz)), []) else none
  | _ => none
 | .nilc x =>
  match x.ev e with
  | .ptr b o => some (.ptr b o, [])
  | .rptr c => some (.rptr c, [])
  | .fn f c => some (.fn f c, [])
  | _ => none
 | .bin op x y => (vbin op (x.ev e) (y.ev e)).map fun v => (v, [])
 | .eqn t neg x y => (veq H t (x.ev e) (y.ev e)).map fun b => (.bool (if neg then !b else b), [])
 | .eqa n neg x y =>
  match x.ev e, y.ev e with
  | .agg (.ints k l), .agg (.ints k' m) => if k = k' ∧ l.length = n ∧ m.length = n then some (.bool (if neg then !(l == m) else l == m), []) else none
  | _, _ => none
 | .un op x => (vun op (x.ev e)).map fun v => (v, [])
 | .cvi k x =>
  match x.ev e with
  | .int _ n => some (.int k (k.wrap n), [])
  | _ => none
 | .s2b x =>
  match x.ev e with
  | .str s => some (.tb (.int .u8) (s.map fun b => (b.toNat : Int)), [])
  | _ => none
 | .b2s x =>
  match isStr (x.ev e) with
  | true => none
  | false =>
  match src H 1 (x.ev e) with
  | some (_, .ints .u8 l) => some (.str (l.map fun n => UInt8.ofNat n.toNat), [])
  | some (_, .imm []) => some (.str [], [])
  | _ => none
 | .s2a n x =>
  match x.ev e with
  | .sl b off len _ _ => if 0 < n ∧ n ≤ len then some (.ptr b off, []) else none
  | .rs len c => if 0 < n ∧ n ≤ len ∧ 0 < c.len then some (.rptr c, []) else none
  | .tb (.int k) l => if 0 < n ∧ n ≤ l.length then some (.rptr (.ints k l), []) else none
  | _ => none
 | .mkf f caps => some (.fn f (caps.map (R.ev e)), [])
 | .mks z sz bytes l c =>
  match l.ev e with
  | .int _ l =>
   match c.ev e with
   | .int _ c =>
    if 0 ≤ l ∧ l ≤ c ∧ c * bytes ≤ 2 ^ 40 ∧ c ≤ 2 ^ 40 then (C.rep c.toNat z).map fun d => (.sl H.length 0 l.toNat (some c.toNat) sz, [.cells false d]) else none
   | _ => none
  | _ => none
 | .ssl x lo hi =>
  match x.ev e with
  | .str s => (bnds s.length none (lo.map (R.ev e)) (hi.map (R.ev e)) none).map fun (l, h, _) => (.str ((s.drop l).take (h - l)), [])
  | _ => none
 | .sls sz x lo hi mx =>
  match x.ev e with
  | .sl b off len cap sz' => if sz = sz' then (bnds len cap (lo.map (R.ev e)) (hi.map (R.ev e)) (mx.map (R.ev e))).map fun (l, h, m) => (.sl b (off + l * sz) (h - l) (m.map (· - l)) sz, []) else none
  | .rs len c =>
   (bnds len none (lo.map (R.ev e)) (hi.map (R.ev e)) (mx.map (R.ev e))).bind fun (l, h, m) =>
    if m = some 0 then some (.ez, []) else if c.len = len * sz then some (.rs (h - l) (c.sub (l * sz) ((h - l) * sz)), []) else none
  | .tb s l =>
   if s.size = sz ∧ mx.isNone then
    (bnds l.length none (lo.map (R.ev e)) (hi.map (R.ev e)) none).map fun p => (.tb s (tsub l lo.isSome hi.isSome p.1 p.2.1), [])
   else (bnds l.length none (lo.map (R.ev e)) (hi.map (R.ev e)) (mx.map (R.ev e))).bind fun p => if p.2.2 = some 0 then some (.ez, []) else none
  | .nils => (bnds 0 (some 0) (lo.map (R.ev e)) (hi.map (R.ev e)) (mx.map (R.ev e))).map fun _ => (.nils, [])
  | .ez => (bnds 0 (some 0) (lo.map (R.ev e)) (hi.map (R.ev e)) (mx.map (R.ev e))).map fun _ => (.ez, [])
  | _ => none
 | .sla n sz x lo hi mx =>
  match x.ev e with
  | .ptr b off => if fits H b (off + n * sz) then (bnds n (some n) (lo.map (R.ev e)) (hi.map (R.ev e)) (mx.map (R.ev e))).map fun (l, h, m) => (.sl b (off + l * sz) (h - l) (m.map (· - l)) sz, []) else none
  | .rptr c => (bnds n (some n) (lo.map (R.ev e)) (hi.map (R.ev e)) (mx.map (R.ev e))).bind fun (l, h, _) => if n * sz ≤ c.len then some (.rs (h - l) (c.sub (l * sz) ((h - l) * sz)), []) else none
  | _ => none
 | .fad off x =>
  match x.ev e with
  | .ptr b o => some (.ptr b (o + off), [])
  | .rptr c => some (.rptr (c.drop off), [])
  | _ => none
 | .fld off n a k x =>
  match x.ev e with
  | .agg c => (partC off n a k c).map fun v => (v, [])
  | _ => none
 | .iad sz x i =>
  match i.ev e with
  | .int _ i =>
   match x.ev e with
   | .sl b off len _ _ => if 0 ≤ i ∧ i < (len : Int) then some (.ptr b (off + i.toNat * sz), []) else none
   | .rs len c => if 0 ≤ i ∧ i < (len : Int) ∧ i.toNat * sz < c.len then some (.rptr (c.drop (i.toNat * sz)), []) else none
   | .tb s l => if s.size = sz ∧ 0 < sz then (if 0 ≤ i then l[i.toNat]? else none).map fun r => (.rptr (.imm (s.cells r)), []) else none
   | _ => none
  | _ => none
 | .iaa n sz x i =>
  match i.ev e with
  | .int _ i =>
   match x.ev e with
   | .ptr b o => if 0 ≤ i ∧ i < (n : Int) then some (.ptr b (o + i.toNat * sz), []) else none
   | .rptr c => if 0 ≤ i ∧ i < (n : Int) then some (.rptr (c.drop (i.toNat * sz)), []) else none
   | _ => none
  | _ => none
 | .ixa n sz a k x i =>
  match i.ev e with
  | .int _ i =>
   match x.ev e with
   | .agg c => if 0 ≤ i ∧ i < (n : Int) then (partC (i.toNat * sz) sz a k c).map fun v => (v, []) else none
   | _ => none
  | _ => none
 | .ixs x i =>
  match i.ev e with
  | .int _ i =>
   match x.ev e with
   | .str s => if 0 ≤ i then (s[i.toNat]?).map fun b => (.int .u8 b.toNat, []) else none
   | _ => none
  | _ => none
 | .rng x =>
  match x.ev e with
  | .str s => some (.ptr H.length 0, [.iter s 0])
  | _ => none
 | .ext x i =>
  match x.ev e with
  | .tup l => (l[i]?).map fun v => (v, [])
  | _ => none
 | .len true x =>
  match x.ev e with
  | .str s => some (.int .i64 s.length, [])
  | _ => none
 | .cvm x =>
  match x.ev e with
  | .sl b off len cap sz =>
   match H[b]? with
   | some (.cells false (.ints k _)) => if 0 < len ∧ k = .u8 then some (.sl b off len cap sz, []) else none
   | _ => none
  | _ => none
 | .len false x =>
  match x.ev e with
  | .sl _ _ n _ _ => some (.int .i64 n, [])
  | .rs n _ => some (.int .i64 n, [])
  | .tb _ l => some (.int .i64 l.length, [])
  | .nils | .ez | .en => some (.int .i64 0, [])
  | _ => none
 | .cap x =>
  match x.ev e with
  | .nils | .ez => some (.int .i64 0, [])
  | .sl _ _ _ cap _ => cap.map fun c : Nat => (V.int .i64 (c : Int), ([] : List Blk))
  | _ => none
 | .lenc n => some (.int .i64 n, [])
 | .mnx mx xs =>
  match xs.map (R.ev e) with
  | v :: r => match v with | .int .. => (mm mx v r).map fun v => (v, []) | _ => none
  | _ => none
 | .app sz bytes x y =>
  (src H sz (y.ev e)).bind fun (n, d) =>
  match x.ev e with
  | .nils | .ez => if n * bytes ≤ 2 ^ 40 ∧ n ≤ 2 ^ 40 then some (.sl H.length 0 n none sz, [.cells false d]) else none
  | .sl b off len (some cap) sz' =>
   if sz = sz' ∧ cap < len + n ∧ (len + n) * bytes ≤ 2 ^ 40 ∧ len + n ≤ 2 ^ 40 then
    (src H sz (x.ev e)).bind fun (_, c) => (c.app d).map fun c => (.sl H.length 0 (len + n) none sz, [.cells false c])
   else none
  | _ => none
 | _ => none

/-- an operation that turns what was there -/
def evE (o : O) (e : Env) (H : List Blk) : Option (V × List Blk) :=
 match o with
 | .stc n x y =>
  match x.ev e with
  | .ptr b o =>
   match H[b]? with
   | some (.cells false c) => ((y.ev e).cellsC).bind fun d => if d.len = n then (if n = 1 ∧ (y.ev e).isCell then c.set o (y.ev e) else c.put o d).map fun c => (.tup [], H.set b (.cells false c)) else none
   | _ => none
  | _ => none
 | .app sz bytes x y =>
  (src H sz (y.ev e)).bind fun (n, d) =>
  match x.ev e with
  | .sl b off len none sz' =>
   match H[b]? with
   | some (.cells false c) =>
    if sz = sz' ∧ off = 0 ∧ c.len = len * sz ∧ (len + n) * bytes ≤ 2 ^ 40 ∧ len + n ≤ 2 ^ 40 then (c.app d).map fun c => (.sl H.length 0 (len + n) none sz, H.set b .dead ++ [.cells false c]) else none
   | _ => none
  | .sl b off len (some cap) sz' =>
   match H[b]? with
   | some (.cells false c) => if sz = sz' ∧ len + n ≤ cap then (c.put (off + len * sz) d).map fun c => (.sl b off (len + n) (some cap) sz, H.set b (.cells false c)) else none
   | _ => none
  | _ => none
 | .cvs x =>
  match x.ev e with
  | .sl b off len _ sz =>
   match H[b]? with
   | some (.cells false (.ints k l)) => if 0 < len ∧ sz = 1 ∧ k = .u8 ∧ off + len ≤ l.length then some (.tb (.int .u8) ((l.drop off).take len), H.set b .dead) else none
   | _ => none
  | _ => none
 | .cpy sz x y =>
  (src H sz (y.ev e)).bind fun (n, d) =>
  match x.ev e with
  | .sl b off len _ sz' =>
   match H[b]? with
   | some (.cells false c) =>
    let m := if n ≤ len then n else len
    if sz = sz' then (c.puta off (d.sub 0 (m * sz))).map fun c => (.int .i64 m, H.set b (.cells false c)) else none
   | _ => none
  | _ => none
 | .clr sz z x =>
  match x.ev e with
  | .sl b off len _ sz' =>
   match H[b]? with
   | some (.cells false c) => if 0 < len ∧ sz = sz' then (C.rep len z).bind fun d => (c.put off d).map fun c => (.tup [], H.set b (.cells false c)) else none
   | _ => none
  | _ => none
 | .nxt x =>
  match x.ev e with
  | .ptr b o =>
   match H[b]? with
   | some (.iter s pos) =>
    if o ≠ 0 then none else
    if pos < s.length then
     let (c, width) := Utf8.decode ⟨s.toArray⟩ pos
     some (.tup [.bool true, .int .i64 pos, .int .i32 c], H.set b (.iter s (pos + width)))
    else some (.tup [.bool false], H)
   | _ => none
  | _ => none
 | _ => none

def push (d : Option Nat) (v : V) (e : Env) : Env :=
 match d with
 | some d => (d, v) :: e
 | none => e

/-- an operation, but a call -/
def evN (o : O) (e : Env) (H : List Blk) : Option (V × List Blk × Bool) :=
 match evQ o e H with
 | some (v, news) => some (v, H ++ news, true)
 | none => (evE o e H).map fun (v, H) => (v, H, false)
/-- zeros appended -/
def apzN (sz bytes : Nat) (z : C) (p q : V) (e : Env) (H : List Blk) : Option (V × List Blk × Bool) :=
 match q with
 | .int _ k =>
  if 0 ≤ k ∧ k * bytes ≤ 2 ^ 40 ∧ k ≤ 2 ^ 40 then
   match p with
   | .nils => some (.sl H.length 0 k.toNat none sz, H ++ [.cells false (z.sub 0 0)], true)
   | .ez => some (.sl H.length 0 k.toNat none sz, H ++ [.cells false (z.sub 0 0)], true)
   | p => (C.rep k.toNat z).bind fun d => evN (.app sz bytes (.c p) (.c (.rs k.toNat d))) e H
  else none
 | _ => none
def evOp (ev : CallF) (own : Nat → Mode) (o : O) (e : Env) (H : List Blk) : Option (V × List Blk × Bool) :=
 match o with
 | .call f xs => callEv ev own (f.ev e) (xs.map (R.ev e)) H
 | .apz sz bytes z x n => apzN sz bytes z (x.ev e) (n.ev e) e H
 | o =>
  match evQ o e H with
  | some (v, news) => some (v, H ++ news, true)
  | none => (evE o e H).map fun (v, H) => (v, H, false)

/-- is an operation carried out? -/
def wants (e : Env) : Option (Nat × Bool) → Option Bool
 | none => some true
 | some (g, want) =>
  match look e g with
  | .bool t => some (t == want)
  | .tup [] => some false
  | _ => none

def evOps (ev : CallF) (own : Nat → Mode) (bar : Nat → Bool) : Nat → List Op → Env → List Blk → Option (Env × List Blk)
 | _, [], e, H => some (e, H)
 | i, o :: os, e, H =>
  match wants e o.guard with
  | some true =>
   match evOp ev own o.o e H with
   | some (v, H', q) => if q || bar i then evOps ev own bar (i + 1) os (push o.dst v e) H' else none
   | none => none
  | some false => evOps ev own bar (i + 1) os (push o.dst (.tup []) e) H
  | none => none

def un (acc : List Nat) : List Nat → List Nat
 | [] => acc
 | x :: l => if acc.contains x then un acc l else un (x :: acc) l
theorem mem_un {y : Nat} : ∀ {l acc : List Nat}, y ∈ un acc l ↔ y ∈ acc ∨ y ∈ l
 | [], acc => by simp [un]
 | x :: l, acc => by
  simp only [un]
  split
  ·rename_i h
   rw [mem_un]
   simp only [List.contains_eq_mem, decide_eq_true_eq] at h
   simp only [List.mem_cons]
   constructor
   ·rintro (h1 | h1)
    ·exact .inl h1
    ·exact .inr (.inr h1)
   ·rintro (h1 | h1 | h1)
    ·exact .inl h1
    ·subst h1; exact .inl h
    ·exact .inr h1
  ·rw [mem_un]
   simp only [List.mem_cons]
   constructor
   ·rintro ((h1 | h1) | h1)
    ·exact .inr (.inl h1)
    ·exact .inl h1
    ·exact .inr (.inr h1)
   ·rintro (h1 | h1 | h1)
    ·exact .inl (.inr h1)
    ·exact .inl (.inl h1)
    ·exact .inr h1
/-- of each operation, the numbers of all that come ahead of it -/
def ancs : List Op → List (List Nat) → List (List Nat)
 | [], acc => acc
 | o :: os, acc => ancs os (acc ++ [un [] (o.wait ++ o.wait.flatMap fun j => acc.getD j [])])
/-- a load that looks at data that nobody may write, alone -/
def refnO : O → O
 | .ldc x => .ldr x
 | .lda n k x => .lra n k x
 | .sla n sz x lo hi mx => .slr n sz x lo hi mx
 | .cvs x => .cvm x
 | o => o
/-- it looks at its operands alone, and makes nothing -/
def pureO : O → Bool
 | .mv _ | .pick .. | .build .. | .nilc _ | .bin .. | .eqa .. | .un .. | .cvi .. | .s2b _ | .s2a .. | .mkf .. | .ssl .. | .sls .. | .fad .. | .fld .. | .iad .. | .iaa .. | .ixa .. | .ixs .. | .ext .. | .len .. | .lenc _ | .cap _ | .mnx .. | .ldr _ | .lra .. | .slr .. => true
 | _ => false
def pures (ops : List Op) (j : Nat) : Bool := ((ops[j]?).map fun o => pureO o.o).getD false
/-- all that looks at the heap comes ahead of it, or behind it -/
def barrier (ops : List Op) (A : List (List Nat)) (j : Nat) : Bool :=
 (List.range j).all (fun i => (A.getD j []).contains i || pures ops i) &&
 (List.range A.length).all fun k => k ≤ j || (A.getD k []).contains j || pures ops k

inductive Ex where
 | norm
 | exit (id : Nat)
 | goto (l : Nat)
 | ret

def findK : K → Nat → Option K
 | .seq a b, l =>
  match findK a l with
  | some rest => some (.seq rest b)
  | none => findK b l
 | .label l', l => if l' = l then some .skip else none
 | .pre _ b, l => findK b l
 | _, _ => none

abbrev St := Env × List Blk
def commit (vars e : Env) : Env := vars.map fun p => (p.1, look e p.1)
/-- what is kept, and the blocks numbered anew -/
def atHead (n0 : Nat) (keep : List Nat) (s : St) : Option St :=
 let vars := s.1.map fun p => (p.1, if keep.contains p.1 then p.2 else .undef)
 (compact n0 (vars.map (·.2)) s.2).map fun (vs, H) => ((vars.map (·.1)).zip vs, H)
def setE (e : Env) (t : Nat) (v : V) : Env := e.map fun p => if p.1 = t then (p.1, v) else p
/-- a slot's value as typed data: its blocks are written no more -/
def ty0 (t : Nat) (S : Sh) (s : St) : Option St :=
 let FL := reach s.2 far [look s.1 t] []
 (toT s.2 FL S (look s.1 t)).map fun r => (setE s.1 t (S.enc r), freeze FL s.2)
def asV : C → Option (List V)
 | .vals l => some l
 | .imm l => some l
 | .ints .. => none
/-- a slice in a box as typed data -/
def tyB (b o : Nat) (S : Sh) (s : St) : Option St :=
 match s.2[b]? with
 | some (.cells false c) =>
  (asV c).bind fun l => (l[o]?).bind fun v =>
   if (reach s.2 far [v] []).contains b then none
   else (toL s.2 (reach s.2 far [v] []) far S v).map fun r => (s.1, (freeze (reach s.2 far [v] []) s.2).set b (.cells false (.vals (l.set o (.tb S r)))))
 | _ => none
/-- a box of data that nobody writes from here on -/
def tyR (t b o : Nat) (s : St) : Option St :=
 match s.2[b]? with
 | some (.cells false c) => if o = 0 then (asR c).map fun c => (setE s.1 t (.rptr c), freeze [b] s.2) else none
 | _ => none
/-- the slices in a box's cells as typed data -/
def tyP (b : Nat) : Sh → Nat → St → Option St
 | .sl S, o, s => tyB b o S s
 | .pr x y, o, s => (tyP b x o s).bind (tyP b y (o + x.size))
 | _, _, s => some s
/-- the same in each row -/
def tyN (b sz : Nat) (S : Sh) : Nat → Nat → St → Option St
 | 0, _, s => some s
 | n + 1, o, s => (tyP b S o s).bind (tyN b sz S n (o + sz))
def ty1 (t : Nat) (S : Sh) (s : St) : Option St :=
 match look s.1 t with
 | .ptr b o =>
  match S with
  | .sl S' => tyB b o S' s
  | .st S' => tyP b S' o s
  | _ => tyR t b o s
 | .sl b o len cap sz =>
  match S with
  | .st S' => tyN b sz S' len o s
  | _ => ty0 t S s
 | .nilp => some s
 | _ => ty0 t S s
def tys : List (Nat × Sh) → St → Option St
 | [], s => some s
 | p :: l, s => (ty1 p.1 p.2 s).bind (tys l)
/-- a slot that holds no element is made ready to grow -/
def gr1 (t : Nat) (c : C) (sz : Nat) (s : St) : St :=
 match look s.1 t with
 | .nils => (setE s.1 t (.sl s.2.length 0 0 none sz), s.2 ++ [.cells false c])
 | .ez => (setE s.1 t (.sl s.2.length 0 0 none sz), s.2 ++ [.cells false c])
 | .sl b off len cap sz' =>
  match cap with
  | none => s
  | some _ =>
   match s.2[b]? with
   | some (.cells ro c) =>
    match ro with
    | false => if off = 0 ∧ sz' = sz ∧ len * sz ≤ c.len then (setE s.1 t (.sl b 0 len none sz), s.2.set b (.cells false (c.sub 0 (len * sz)))) else s
    | true => s
   | _ => s
 | .ptr b o =>
  match s.2[b]? with
  | some (.cells ro c0) =>
   match ro with
   | false =>
    match asV c0 with
    | some l =>
     match l[o + sz / 1000]? with
     | some v =>
      match v with
      | .nils | .ez => (s.1, s.2.set b (.cells false (.vals (l.set (o + sz / 1000) (.sl s.2.length 0 0 none (sz % 1000))))) ++ [.cells false c])
      | _ => s
     | none => s
    | none => s
   | true => s
  | _ => s
 | _ => s
def grs : List (Nat × C × Nat) → St → St
 | [], s => s
 | p :: l, s => grs l (gr1 p.1 p.2.1 p.2.2 s)
def trim (n0 : Nat) (t : Trim) (s : St) : Option St :=
 (tys t.ty s).bind fun s => if t.all then some (grs t.gr s) else atHead n0 t.keep (grs t.gr s)

def ev (call : CallF) (own : Nat → Mode) (n0 : Nat) : Nat → K → St → Option (Ex × St)
 | 0, _, _ => none
 | n + 1, k, s =>
  match k with
  | .skip => some (.norm, s)
  | .label _ => some (.norm, s)
  | .region ops draw =>
   (evOps call own (if draw then barrier ops (ancs ops []) else fun _ => true) 0 ops s.1 s.2).map fun (e, H) => (.norm, commit s.1 e, H)
  | .seq a b =>
   match ev call own n0 n a s with
   | some (.norm, s1) => ev call own n0 n b s1
   | r => r
  | .cond c x y =>
   match c.ev s.1 with
   | .bool true => ev call own n0 n x s
   | .bool false => ev call own n0 n y s
   | _ => none
  | .block id b =>
   match ev call own n0 n b s with
   | some (.exit id', s1) => if id' = id then some (.norm, s1) else some (.exit id', s1)
   | r => r
  | .loop t b =>
   match trim n0 t s with
   | some s0 =>
    match ev call own n0 n b s0 with
    | some (.norm, s1) => ev call own n0 n (.loop t b) s1
    | r => r
   | none => none
  | .pre t b =>
   match trim n0 t s with
   | some s1 => ev call own n0 n b s1
   | none => none
  | .exit id => some (.exit id, s)
  | .goto l => some (.goto l, s)
  | .ret => some (.ret, s)
  | .scope b => ev call own n0 n (.rsm b b) s
  | .rsm c b =>
   match ev call own n0 n c s with
   | some (.goto l, s1) =>
    match findK b l with
    | some rest => ev call own n0 n (.rsm rest b) s1
    | none => some (.goto l, s1)
   | r => r
  | .bad => none

def resOf (e : Env) (H : List Blk) : Res → Option V
 | .tmp t => some (look e t)
 | .cell t n a k =>
  match look e t with
  | .ptr b o => match H[b]? with | some (.cells _ c) => partC o n a k c | _ => none
  | _ => none
def one1 : List V → V
 | [v] => v
 | l => .tup l

def env0 (f : Fun) (xs : List V) : Env := f.vars.map fun t => (t, xs.getD t (.tup []))

/-- a result as data -/
def fin (fn : Fun) (n0 : Nat) (v : V) (H : List Blk) : Option (V × List Blk) :=
 match fn.rsh with
 | none => some (v, H)
 | some S => if n0 = 0 then (toT H (List.range H.length) S v).map fun r => (S.enc r, []) else none
/-- functions that are answered for without their text: 320 is slices.Clone of rows of a kind and bytes, 61 is slices.Clone of bytes, 66 is internal/bytealg.IndexByteString, 108 is bytes.Clone, 410 is Parse of chapter 09 (its walk is a text of its own) -/
def XA : Nat → Option (List Sh)
 | 61 => some [.sl (.int .u8)]
 | 66 => some [.str, .int .u8]
 | 108 => some [.sl (.int .u8)]
 | 320 => some [.sl (.pr (.int .u8) (.sl (.int .u8)))]
 | 410 => some [.sl (.int .u8)]
 | _ => none
def modeOf (F : Nat → Option Fun) : Nat → Mode := fun g => match F g with | some fn => ⟨fn.own, fn.ash, fn.rd⟩ | none => ⟨false, XA g, false⟩

def evF (F : Nat → Option Fun) (X : Nat → List V → Option (V × List Blk)) : Nat → CallF
 | 0, _, _, _ => none
 | n + 1, f, xs, H =>
  match F f with
  | some fn =>
   if fn.ntmps < xs.length then none else
   match ev (evF F X n) (modeOf F) H.length n fn.body (env0 fn xs, H) with
   | some (.norm, e, H1) | some (.ret, e, H1) =>
    (fn.res.mapM (resOf e H1)).bind fun rs =>
    (compact H.length [one1 rs] H1).bind fun (vs, H2) => vs.head?.bind fun v => fin fn H.length v H2
   | _ => none
  | none => if H.isEmpty then X f xs else none
end Go.Proofs.YtchoafdpckknmaaDoorE
