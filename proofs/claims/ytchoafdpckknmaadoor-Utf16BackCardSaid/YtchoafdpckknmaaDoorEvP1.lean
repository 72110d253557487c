/- The evaluator, handing on what it finds: operations. -/
import Derived.Test.YtchoafdpckknmaaDoorEvSy
namespace Go.Proofs.YtchoafdpckknmaaDoorE
open Go
set_option linter.unusedSimpArgs false
set_option linter.unusedVariables false
variable {α : Type}

/-! ### whole numbers by name -/
def iadd (k : IntKind) (a b : Int) : Int := k.wrap (a + b)
def isub (k : IntKind) (a b : Int) : Int := k.wrap (a - b)
def imul (k : IntKind) (a b : Int) : Int := k.wrap (a * b)
def iquo (k : IntKind) (a b : Int) : Int := k.wrap (a.tdiv b)
def irem (a b : Int) : Int := a.tmod b
def iand (k : IntKind) (a b : Int) : Int := k.wrap (BitVec.ofInt k.bits a &&& BitVec.ofInt k.bits b).toNat
def ior (k : IntKind) (a b : Int) : Int := k.wrap (BitVec.ofInt k.bits a ||| BitVec.ofInt k.bits b).toNat
def ixor (k : IntKind) (a b : Int) : Int := k.wrap (BitVec.ofInt k.bits a ^^^ BitVec.ofInt k.bits b).toNat
def iandn (k : IntKind) (a b : Int) : Int := k.wrap (BitVec.ofInt k.bits a &&& ~~~BitVec.ofInt k.bits b).toNat
def ishl (k : IntKind) (a b : Int) : Int := k.wrap (a * 2 ^ (min b.toNat k.bits))
def ishr (k : IntKind) (a b : Int) : Int := a.fdiv (2 ^ (min b.toNat k.bits))
/-- an element, if there is one -/
def geti {β : Type} (l : List β) (i : Int) : Option β := if 0 ≤ i then l[i.toNat]? else none

theorem bif_some {c : Bool} {x : Option α} {a : α} (h : (bif c then x else none) = some a) : c = true ∧ x = some a := by
 cases c with
 | false => cases h
 | true => exact ⟨rfl, h⟩
theorem bif_none {c : Bool} {x : Option α} {a : α} (h : (bif c then none else x) = some a) : c = false ∧ x = some a := by
 cases c with
 | true => cases h
 | false => exact ⟨rfl, h⟩

def intc (op : BinOp) (k : IntKind) (a b : Int) (κ : V → Option α) : Option α :=
 match op with
 | .add => κ (.int k (iadd k a b))
 | .sub => κ (.int k (isub k a b))
 | .mul => κ (.int k (imul k a b))
 | .quo => bif b == 0 then none else κ (.int k (iquo k a b))
 | .rem => bif b == 0 then none else κ (.int k (irem a b))
 | .and => κ (.int k (iand k a b))
 | .or => κ (.int k (ior k a b))
 | .xor => κ (.int k (ixor k a b))
 | .andNot => κ (.int k (iandn k a b))
 | .eql => κ (.bool (a == b))
 | .neq => κ (.bool (a != b))
 | .lss => κ (.bool (decide (a < b)))
 | .leq => κ (.bool (decide (a ≤ b)))
 | .gtr => κ (.bool (decide (a > b)))
 | .geq => κ (.bool (decide (a ≥ b)))
 | _ => none
theorem intc_spec {op : BinOp} {k : IntKind} {a b : Int} {κ : V → Option α} {r : α} (h : intc op k a b κ = some r) : ∃ v, vint op k a b = some v ∧ κ v = some r := by
 cases op <;> simp only [intc] at h <;> first | (cases h; done) | exact ⟨_, rfl, h⟩ | skip
 all_goals
  obtain ⟨h1, h2⟩ := bif_none h
  have : b ≠ 0 := by simpa using h1
  exact ⟨_, by simp only [vint, if_neg this] <;> rfl, h2⟩
def shc (op : BinOp) (k : IntKind) (a b : Int) (κ : V → Option α) : Option α :=
 match op with
 | .shl => bif decide (b < 0) then none else κ (.int k (ishl k a b))
 | .shr => bif decide (b < 0) then none else κ (.int k (ishr k a b))
 | _ => none
theorem shc_spec {op : BinOp} {k : IntKind} {a b : Int} {κ : V → Option α} {r : α} (h : shc op k a b κ = some r) : ∃ v, vshift op k a b = some v ∧ κ v = some r := by
 cases op <;> simp only [shc] at h <;> try (cases h; done)
 all_goals
  obtain ⟨h1, h2⟩ := bif_none h
  have : ¬ b < 0 := by simpa using h1
  exact ⟨_, by simp only [vshift, if_neg this] <;> rfl, h2⟩
def strc (op : BinOp) (a b : List UInt8) (κ : V → Option α) : Option α :=
 match op with
 | .add => bif decide (a.length + b.length < 2 ^ 60) then κ (.str (a ++ b)) else none
 | op => match vstr op a b with | some v => κ v | none => none
theorem strc_spec {op : BinOp} {a b : List UInt8} {κ : V → Option α} {r : α} (h : strc op a b κ = some r) : ∃ v, vstr op a b = some v ∧ κ v = some r := by
 cases op
 case add =>
  simp only [strc] at h
  obtain ⟨h1, h2⟩ := bif_some h
  exact ⟨_, by simp only [vstr, if_pos (of_decide_eq_true h1)] <;> rfl, h2⟩
 all_goals
  simp only [strc] at h
  split at h <;> first | (cases h; done) | (rename_i hv; exact ⟨_, hv, h⟩)
def binc (op : BinOp) (p q : V) (κ : V → Option α) : Option α :=
 match p with
 | .int k a => match q with | .int k' b => if isShift op then shc op k a b κ else if k = k' then intc op k a b κ else none | _ => none
 | .str a => match q with | .str b => strc op a b κ | _ => none
 | _ => none
theorem binc_spec {op : BinOp} {p q : V} {κ : V → Option α} {r : α} (h : binc op p q κ = some r) : ∃ v, vbin op p q = some v ∧ κ v = some r := by
 cases p <;> simp only [binc] at h <;> try (cases h; done)
 ·cases q <;> simp only [] at h <;> try (cases h; done)
  simp only [vbin]
  split at h
  ·rename_i hs; rw [if_pos hs]; exact shc_spec h
  ·rename_i hs
   rw [if_neg hs]
   split at h <;> try (cases h; done)
   rename_i hk; rw [if_pos hk]; exact intc_spec h
 ·cases q <;> simp only [] at h <;> try (cases h; done)
  exact strc_spec h

/-! ### contents -/
/-- a value of a row, whatever the place -/
def getv (j : Nat) (κ : V → Option α) : Nat → List V → Option α
 | _, [] => none
 | i, v :: l => bif Nat.beq j i then κ v else getv j κ (i + 1) l
theorem getv_spec {j : Nat} {κ : V → Option α} {r : α} : ∀ {i : Nat} {l : List V}, getv j κ i l = some r → ∃ v, i ≤ j ∧ l[j - i]? = some v ∧ κ v = some r
 | _, [], h => by cases h
 | i, v :: l, h => by
  rw [getv] at h
  cases hb : Nat.beq j i with
  | true =>
   rw [hb] at h
   have e := Nat.eq_of_beq_eq_true hb
   subst e
   exact ⟨v, Nat.le_refl _, by simp, h⟩
  | false =>
   rw [hb] at h
   obtain ⟨v', h1, h2, h3⟩ := getv_spec h
   refine ⟨v', by omega, ?_, h3⟩
   rw [show j - i = (j - (i + 1)) + 1 by omega]
   exact h2
def getc (c : C) (j : Nat) (κ : V → Option α) : Option α :=
 match c with
 | .ints k l => match l[j]? with | some n => κ (.int k n) | none => none
 | .vals l => getv j κ 0 l
 | .imm l => getv j κ 0 l
theorem getc_spec {c : C} {j : Nat} {κ : V → Option α} {r : α} (h : getc c j κ = some r) : ∃ v, c.get j = some v ∧ κ v = some r := by
 cases c with
 | ints k l =>
  simp only [getc] at h
  split at h <;> try (cases h; done)
  rename_i hv
  exact ⟨_, by simp only [C.get, hv]; rfl, h⟩
 | vals l =>
  obtain ⟨v, _, h2, h3⟩ := getv_spec (show getv j κ 0 l = some r from h)
  exact ⟨v, h2, h3⟩
 | imm l =>
  obtain ⟨v, _, h2, h3⟩ := getv_spec (show getv j κ 0 l = some r from h)
  exact ⟨v, h2, h3⟩
def aggc (k : Option IntKind) (c : C) (κ : V → Option α) : Option α :=
 match k with
 | none => κ (.agg c)
 | some k =>
  match c with
  | .ints k' l => if k = k' then κ (.agg (.ints k l)) else none
  | c => match C.toInts k c.toL with | some l => κ (.agg (.ints k l)) | none => none
theorem aggc_spec {k : Option IntKind} {c : C} {κ : V → Option α} {r : α} (h : aggc k c κ = some r) : ∃ v, asAgg k c = some v ∧ κ v = some r := by
 cases k with
 | none => exact ⟨_, rfl, h⟩
 | some k =>
  cases c <;> simp only [aggc] at h <;> (split at h <;> try (cases h; done)) <;> rename_i hv
  ·exact ⟨_, by simp only [asAgg, if_pos hv], h⟩
  ·exact ⟨_, by simp only [asAgg, hv] <;> rfl, h⟩
  ·exact ⟨_, by simp only [asAgg, hv] <;> rfl, h⟩
def partc (o n : Nat) (a : Bool) (k : Option IntKind) (c : C) (κ : V → Option α) : Option α :=
 match a with
 | true => bif decide (o + n ≤ c.len) then aggc k (c.sub o n) κ else none
 | false => getc c o κ
theorem partc_spec {o n : Nat} {a : Bool} {k : Option IntKind} {c : C} {κ : V → Option α} {r : α} (h : partc o n a k c κ = some r) : ∃ v, partC o n a k c = some v ∧ κ v = some r := by
 cases a <;> simp only [partc] at h
 ·exact getc_spec h
 ·obtain ⟨h1, h2⟩ := bif_some h
  obtain ⟨v, h3, h4⟩ := aggc_spec h2
  exact ⟨v, by simp only [partC, if_true, if_pos (of_decide_eq_true h1)]; exact h3, h4⟩
def setc (c : C) (j : Nat) (v : V) (κ : C → Option α) : Option α :=
 match c with
 | .ints k l => match v with | .int k' n => if k = k' then (bif decide (j < l.length) then κ (.ints k (l.set j n)) else none) else none | _ => none
 | .vals l => bif decide (j < l.length) && v.isCell then κ (.vals (l.set j v)) else none
 | .imm l => bif decide (j < l.length) && (v.isCell && v.idf) then κ (.imm (l.set j v)) else none
theorem setc_spec {c : C} {j : Nat} {v : V} {κ : C → Option α} {r : α} (h : setc c j v κ = some r) : ∃ d, c.set j v = some d ∧ κ d = some r := by
 cases c <;> simp only [setc] at h
 ·split at h <;> try (cases h; done)
  split at h <;> try (cases h; done)
  rename_i hk
  obtain ⟨h1, h2⟩ := bif_some h
  exact ⟨_, by simp only [C.set, if_pos (And.intro hk (of_decide_eq_true h1))], h2⟩
 ·obtain ⟨h1, h2⟩ := bif_some h
  simp only [Bool.and_eq_true, decide_eq_true_eq] at h1
  exact ⟨_, by simp only [C.set, if_pos h1], h2⟩
 ·obtain ⟨h1, h2⟩ := bif_some h
  simp only [Bool.and_eq_true, decide_eq_true_eq] at h1
  exact ⟨_, by simp only [C.set, if_pos h1], h2⟩
def putc (c : C) (o : Nat) (d : C) (κ : C → Option α) : Option α :=
 match c with
 | .ints k l => match d with | .ints k' m => if k = k' then (bif decide (o + m.length ≤ l.length) then κ (.ints k (l.take o ++ m ++ l.drop (o + m.length))) else none) else none | _ => none
 | .vals l => bif decide (o + d.len ≤ l.length) then κ (.vals (l.take o ++ d.toL ++ l.drop (o + d.len))) else none
 | .imm l => match d with | .imm m => bif decide (o + m.length ≤ l.length) then κ (.imm (l.take o ++ m ++ l.drop (o + m.length))) else none | _ => none
theorem putc_spec {c : C} {o : Nat} {d : C} {κ : C → Option α} {r : α} (h : putc c o d κ = some r) : ∃ z, c.put o d = some z ∧ κ z = some r := by
 cases c <;> simp only [putc] at h
 ·cases d <;> simp only [] at h <;> try (cases h; done)
  split at h <;> try (cases h; done)
  rename_i hk
  obtain ⟨h1, h2⟩ := bif_some h
  exact ⟨_, by simp only [C.put, if_pos (And.intro hk (of_decide_eq_true h1))], h2⟩
 ·obtain ⟨h1, h2⟩ := bif_some h
  exact ⟨_, by simp only [C.put, if_pos (of_decide_eq_true h1)], h2⟩
 ·cases d <;> simp only [] at h <;> try (cases h; done)
  obtain ⟨h1, h2⟩ := bif_some h
  exact ⟨_, by simp only [C.put, if_pos (of_decide_eq_true h1)], h2⟩
def putac (c : C) (o : Nat) (d : C) (κ : C → Option α) : Option α :=
 match c with
 | .ints k l => match d with
  | .ints k' m => if k = k' then (bif decide (o + m.length ≤ l.length) then κ (.ints k (l.take o ++ m ++ l.drop (o + m.length))) else bif decide (o ≤ l.length) then κ (.ints k (l.take o ++ m)) else none) else none
  | _ => none
 | c => putc c o d κ
theorem putac_spec {c : C} {o : Nat} {d : C} {κ : C → Option α} {r : α} (h : putac c o d κ = some r) : ∃ z, c.puta o d = some z ∧ κ z = some r := by
 cases c with
 | ints k l =>
  simp only [putac] at h
  split at h <;> try (cases h; done)
  rename_i k' m
  split at h <;> try (cases h; done)
  rename_i hk
  subst hk
  cases h1 : decide (o + m.length ≤ l.length) with
  | true =>
   rw [h1, cond_true] at h
   exact ⟨_, by simp [C.puta, C.put, of_decide_eq_true h1], h⟩
  | false =>
   rw [h1, cond_false] at h
   obtain ⟨h2, h3⟩ := bif_some h
   refine ⟨_, ?_, h3⟩
   have hn : ¬ o + m.length ≤ l.length := of_decide_eq_false h1
   have h2' : o ≤ l.length := by simpa using h2
   simp [C.puta, C.put, hn, h2']
 | vals l =>
  obtain ⟨z, h1, h2⟩ := putc_spec (show putc (.vals l) o d κ = some r from h)
  exact ⟨z, by simp only [C.puta, h1], h2⟩
 | imm l =>
  obtain ⟨z, h1, h2⟩ := putc_spec (show putc (.imm l) o d κ = some r from h)
  exact ⟨z, by simp only [C.puta, h1], h2⟩
def appc (c d : C) (κ : C → Option α) : Option α :=
 match c with
 | .ints k l =>
  match d with
  | .ints k' m => if k = k' then κ (.ints k (l ++ m)) else none
  | .imm m => match m with | [] => κ (.ints k l) | _ => none
  | _ => none
 | .vals l => κ (.vals (l ++ d.toL))
 | .imm l =>
  match d with
  | .imm m => κ (.imm (l ++ m))
  | d => match C.app (.imm l) d with | some z => κ z | none => none
theorem appc_spec {c d : C} {κ : C → Option α} {r : α} (h : appc c d κ = some r) : ∃ z, c.app d = some z ∧ κ z = some r := by
 cases c <;> simp only [appc] at h
 ·cases d <;> simp only [] at h <;> try (cases h; done)
  ·split at h <;> try (cases h; done)
   rename_i hk
   exact ⟨_, by simp only [C.app, if_pos hk], h⟩
  ·split at h <;> try (cases h; done)
   exact ⟨_, rfl, h⟩
 ·exact ⟨_, rfl, h⟩
 ·rename_i l
  cases d <;> simp only [] at h
  ·split at h <;> try (cases h; done)
   rename_i hv; exact ⟨_, hv, h⟩
  ·split at h <;> try (cases h; done)
   rename_i hv; exact ⟨_, hv, h⟩
  ·refine ⟨_, ?_, h⟩
   cases l <;> rfl
def putAllc (e : Env) (z : C) (κ : C → Option α) : List (Nat × Nat × R) → Option α
 | [] => κ z
 | (o, n, x) :: r =>
  match (R.ev e x).cellsC with
  | some d => bif d.len == n then putc z o d (fun z => putAllc e z κ r) else none
  | none => none
theorem putAllc_spec {e : Env} {κ : C → Option α} {a : α} : ∀ {ps : List (Nat × Nat × R)} {z : C}, putAllc e z κ ps = some a → ∃ c, putAll e z ps = some c ∧ κ c = some a
 | [], z, h => ⟨z, rfl, h⟩
 | (o, n, x) :: r, z, h => by
  simp only [putAllc] at h
  split at h <;> try (cases h; done)
  rename_i d hd
  obtain ⟨h1, h2⟩ := bif_some h
  obtain ⟨z', h3, h4⟩ := putc_spec h2
  obtain ⟨c, h5, h6⟩ := putAllc_spec h4
  have : d.len = n := by simpa using h1
  exact ⟨c, by simp only [putAll, hd, Option.bind_some, if_pos this, h3, h5], h6⟩

/-! ### slices -/
def bndc (v : V) (y : Nat) (κ : Nat → Option α) : Option α :=
 match v with
 | .int _ i => bif decide (0 ≤ i) && decide (i ≤ (y : Int)) then κ i.toNat else none
 | _ => none
theorem bndc_spec {v : V} {y : Nat} {κ : Nat → Option α} {r : α} (h : bndc v y κ = some r) : ∃ n, bnd v y = some n ∧ κ n = some r := by
 cases v <;> simp only [bndc] at h <;> try (cases h; done)
 obtain ⟨h1, h2⟩ := bif_some h
 simp only [Bool.and_eq_true, decide_eq_true_eq] at h1
 exact ⟨_, by simp only [bnd, if_pos h1], h2⟩
def bndOc (d : Nat) (v : Option V) (y : Nat) (κ : Nat → Option α) : Option α :=
 match v with
 | none => κ d
 | some v => bndc v y κ
theorem bndOc_spec {d : Nat} {v : Option V} {y : Nat} {κ : Nat → Option α} {r : α} (h : bndOc d v y κ = some r) : ∃ n, bndO d v y = some n ∧ κ n = some r := by
 cases v with
 | none => exact ⟨_, rfl, h⟩
 | some v => exact bndc_spec h
def bndsc (len : Nat) (cap : Option Nat) (lo hi mx : Option V) (κ : Nat → Nat → Option Nat → Option α) : Option α :=
 match mx with
 | some m => bndc m (cap.getD len) fun m' => match hi with | some h => bndc h m' fun h' => bndOc 0 lo h' fun l => κ l h' (some m') | none => none
 | none => bndOc len hi (cap.getD len) fun h' => bndOc 0 lo h' fun l => κ l h' cap
theorem bndsc_spec {len : Nat} {cap : Option Nat} {lo hi mx : Option V} {κ : Nat → Nat → Option Nat → Option α} {r : α} (h : bndsc len cap lo hi mx κ = some r) : ∃ l h' m, bnds len cap lo hi mx = some (l, h', m) ∧ κ l h' m = some r := by
 cases mx with
 | none =>
  simp only [bndsc] at h
  obtain ⟨n1, h1, h2⟩ := bndOc_spec h
  obtain ⟨n2, h3, h4⟩ := bndOc_spec h2
  exact ⟨_, _, _, by simp only [bnds, h1, Option.bind_some, h3, Option.map_some], h4⟩
 | some m =>
  simp only [bndsc] at h
  obtain ⟨n1, h1, h2⟩ := bndc_spec h
  cases hi with
  | none => cases h2
  | some hv =>
   simp only [] at h2
   obtain ⟨n2, h3, h4⟩ := bndc_spec h2
   obtain ⟨n3, h5, h6⟩ := bndOc_spec h4
   exact ⟨_, _, _, by simp only [bnds, h1, Option.bind_some, h3, h5, Option.map_some], h6⟩
def srcc (H : List Blk) (sz : Nat) (v : V) (κ : Nat → C → Option α) : Option α :=
 match v with
 | .sl b off len _ _ =>
  match H[b]? with
  | some (.cells _ c) => bif decide (off + len * sz ≤ c.len) then κ len (c.sub off (len * sz)) else none
  | _ => none
 | .rs len c => bif c.len == len * sz then κ len c else none
 | v => match src H sz v with | some p => κ p.1 p.2 | none => none
theorem srcc_spec {H : List Blk} {sz : Nat} {v : V} {κ : Nat → C → Option α} {r : α} (h : srcc H sz v κ = some r) : ∃ n c, src H sz v = some (n, c) ∧ κ n c = some r := by
 cases v
 case sl b off len cap s =>
  simp only [srcc] at h
  split at h <;> try (cases h; done)
  rename_i hb
  obtain ⟨h1, h2⟩ := bif_some h
  exact ⟨_, _, by simp only [src, hb, if_pos (of_decide_eq_true h1)] <;> rfl, h2⟩
 case rs len c =>
  simp only [srcc] at h
  obtain ⟨h1, h2⟩ := bif_some h
  exact ⟨_, _, by simp only [src, if_pos (show c.len = len * sz by simpa using h1)] <;> rfl, h2⟩
 all_goals
  simp only [srcc] at h
  split at h <;> try (cases h; done)
  rename_i p hv
  exact ⟨p.1, p.2, hv, h⟩
/-- a place, whatever it is -/
def selN (i : Nat) (κ : Nat → Option α) : Nat → Nat → Option α
 | _, 0 => none
 | t, n + 1 => bif Nat.beq i t then κ t else selN i κ (t + 1) n
theorem selN_spec {i : Nat} {κ : Nat → Option α} {a : α} : ∀ {n t : Nat}, selN i κ t n = some a → κ i = some a
 | 0, t, h => by cases h
 | n + 1, t, h => by
  rw [selN] at h
  cases hb : Nat.beq i t with
  | true => rw [hb] at h; rw [Nat.eq_of_beq_eq_true hb]; exact h
  | false => rw [hb] at h; exact selN_spec h
def partcs (n sz i : Nat) (a : Bool) (k : Option IntKind) (c : C) (κ : V → Option α) : Option α :=
 match c with
 | .vals l => selN i (fun t => partc (t * sz) sz a k (.vals l) κ) 0 n
 | c => partc (i * sz) sz a k c κ
theorem partcs_spec {n sz i : Nat} {a : Bool} {k : Option IntKind} {c : C} {κ : V → Option α} {r : α} (h : partcs n sz i a k c κ = some r) : ∃ v, partC (i * sz) sz a k c = some v ∧ κ v = some r := by
 unfold partcs at h
 split at h
 ·exact partc_spec (selN_spec h)
 ·exact partc_spec h
/-- an array of a few elements that are no whole numbers -/
def fewV (H : List Blk) (b n : Nat) : Bool :=
 match H[b]? with
 | some (.cells _ (.vals _)) => Nat.ble n 8
 | _ => false
def fewC (c : C) (n : Nat) : Bool :=
 match c with
 | .ints _ _ => false
 | _ => Nat.ble n 8
/-- how many rows a block of a few cells that are no whole numbers has -/
def rowsV (H : List Blk) (b sz : Nat) : Option Nat :=
 match H[b]? with
 | some (.cells _ (.vals l)) => (match Nat.ble l.length 100 with | true => some (l.length / sz) | false => none)
 | _ => none
def R.evO (e : Env) (o : Option R) : Option V := o.map (R.ev e)

/-- an operation of the machine, but calls -/
def opc (o : O) (e : Env) (H : List Blk) (κ : V → List Blk → Bool → Option α) : Option α :=
 match o with
 | .pick c a b => match c.ev e with | .bool t => (match t with | true => κ (a.ev e) H true | false => κ (b.ev e) H true) | _ => none
 | .bin op x y => binc op (x.ev e) (y.ev e) fun v => κ v H true
 | .build z ps => putAllc e z (fun c => κ (.agg c) H true) ps
 | .bsl len sz z ps => putAllc e z (fun c => bif (c.len == len * sz) && decide (len * sz ≤ 2 ^ 20) then κ (.sl H.length 0 len (some len) sz) (H ++ [.cells false (tidy c)]) true else none) ps
 | .ldc x =>
  match x.ev e with
  | .ptr b o => match H[b]? with | some (.cells _ c) => getc c o fun v => κ v H true | _ => none
  | .rptr c => getc c 0 fun v => κ v H true
  | _ => none
 | .lda n k x =>
  match x.ev e with
  | .ptr b o => match H[b]? with | some (.cells _ c) => partc o n true k c fun v => κ v H true | _ => none
  | .rptr c => partc 0 n true k c fun v => κ v H true
  | _ => none
 | .cvm x =>
  match x.ev e with
  | .sl b off len cap sz =>
   match H[b]? with
   | some (.cells ro c) =>
    (match ro with
     | false =>
      match c with
      | .ints k _ => if k = .u8 then bif decide (0 < len) then κ (.sl b off len cap sz) H true else none else none
      | _ => none
     | true => none)
   | _ => none
  | _ => none
 | .ldr x =>
  match x.ev e with
  | .rptr c => getc c 0 fun v => κ v H true
  | _ => none
 | .lra n k x =>
  match x.ev e with
  | .rptr c => partc 0 n true k c fun v => κ v H true
  | _ => none
 | .slr n sz x lo hi mx =>
  match x.ev e with
  | .rptr c => bndsc n (some n) (R.evO e lo) (R.evO e hi) (R.evO e mx) fun l h _ => bif decide (n * sz ≤ c.len) then κ (.rs (h - l) (c.sub (l * sz) ((h - l) * sz))) H true else none
  | _ => none
 | .eqa n neg x y =>
  match x.ev e with
  | .agg (.ints k l) =>
   match y.ev e with
   | .agg (.ints k' m) => if k = k' then (bif (l.length == n) && (m.length == n) then κ (.bool (if neg then !(l == m) else l == m)) H true else none) else none
   | _ => none
  | _ => none
 | .b2s x =>
  match isStr (x.ev e) with
  | true => none
  | false => srcc H 1 (x.ev e) fun _ c =>
   match c with
   | .ints k l => match k with | .u8 => κ (.str (l.map fun n => UInt8.ofNat n.toNat)) H true | _ => none
   | .imm l => match l with | [] => κ (.str []) H true | _ => none
   | _ => none
 | .s2a n x =>
  match x.ev e with
  | .sl b off len _ _ => bif decide (0 < n) && decide (n ≤ len) then κ (.ptr b off) H true else none
  | .rs len c => bif decide (0 < n) && (decide (n ≤ len) && decide (0 < c.len)) then κ (.rptr c) H true else none
  | .tb s l => match s, l with | .int k, l => bif decide (0 < n) && decide (n ≤ l.length) then κ (.rptr (.ints k l)) H true else none | _, _ => none
  | _ => none
 | .mks z sz bytes l c =>
  match l.ev e with
  | .int _ l =>
   match c.ev e with
   | .int _ c =>
    bif decide (0 ≤ l) && (decide (l ≤ c) && (decide (c * bytes ≤ 2 ^ 40) && decide (c ≤ 2 ^ 40))) then (match C.rep c.toNat z with | some d => κ (.sl H.length 0 l.toNat (some c.toNat) sz) (H ++ [.cells false d]) true | none => none) else none
   | _ => none
  | _ => none
 | .ssl x lo hi =>
  match x.ev e with
  | .str s => bndsc s.length none (R.evO e lo) (R.evO e hi) none fun l h _ => κ (.str ((s.drop l).take (h - l))) H true
  | _ => none
 | .sls sz x lo hi mx =>
  match x.ev e with
  | .sl b off len cap sz' => if sz = sz' then bndsc len cap (R.evO e lo) (R.evO e hi) (R.evO e mx) fun l h m => κ (.sl b (off + l * sz) (h - l) (m.map (· - l)) sz) H true else none
  | .tb s l =>
   if s.size = sz ∧ mx.isNone then
    bndsc l.length none (R.evO e lo) (R.evO e hi) none fun a b _ => κ (.tb s (tsub l lo.isSome hi.isSome a b)) H true
   else bndsc l.length none (R.evO e lo) (R.evO e hi) (R.evO e mx) fun _ _ m => match m with | some z => (match z with | 0 => κ .ez H true | _ => none) | none => none
  | .nils => bndsc 0 (some 0) (R.evO e lo) (R.evO e hi) (R.evO e mx) fun _ _ _ => κ .nils H true
  | .ez => bndsc 0 (some 0) (R.evO e lo) (R.evO e hi) (R.evO e mx) fun _ _ _ => κ .ez H true
  | _ => match evQ (.sls sz x lo hi mx) e H with | some p => κ p.1 (H ++ p.2) true | none => none
 | .sla n sz x lo hi mx =>
  match x.ev e with
  | .ptr b off => bif fits H b (off + n * sz) then bndsc n (some n) (R.evO e lo) (R.evO e hi) (R.evO e mx) fun l h m => κ (.sl b (off + l * sz) (h - l) (m.map (· - l)) sz) H true else none
  | .rptr c => bndsc n (some n) (R.evO e lo) (R.evO e hi) (R.evO e mx) fun l h _ => bif decide (n * sz ≤ c.len) then κ (.rs (h - l) (c.sub (l * sz) ((h - l) * sz))) H true else none
  | _ => none
 | .fld off n a k x =>
  match x.ev e with
  | .agg c => partc off n a k c fun v => κ v H true
  | _ => none
 | .iad sz x i =>
  match i.ev e with
  | .int _ i =>
   match x.ev e with
   | .sl b off len _ _ => bif decide (0 ≤ i) && decide (i < (len : Int)) then (match rowsV H b sz with | some n => selN i.toNat (fun t => κ (.ptr b (off + t * sz)) H true) 0 n | none => κ (.ptr b (off + i.toNat * sz)) H true) else none
   | .tb s l => if s.size = sz ∧ 0 < sz then (match geti l i with | some r => κ (.rptr (.imm (s.cells r))) H true | none => none) else none
   | .rs len c => bif decide (0 ≤ i) && (decide (i < (len : Int)) && decide (i.toNat * sz < c.len)) then κ (.rptr (c.drop (i.toNat * sz))) H true else none
   | _ => none
  | _ => none
 | .iaa n sz x i =>
  match i.ev e with
  | .int _ i =>
   match x.ev e with
   | .ptr b o => bif decide (0 ≤ i) && decide (i < (n : Int)) then (match fewV H b n with | true => selN i.toNat (fun t => κ (.ptr b (o + t * sz)) H true) 0 n | false => κ (.ptr b (o + i.toNat * sz)) H true) else none
   | .rptr c => bif decide (0 ≤ i) && decide (i < (n : Int)) then (match fewC c n with | true => selN i.toNat (fun t => κ (.rptr (c.drop (t * sz))) H true) 0 n | false => κ (.rptr (c.drop (i.toNat * sz))) H true) else none
   | _ => none
  | _ => none
 | .ixa n sz a k x i =>
  match i.ev e with
  | .int _ i =>
   match x.ev e with
   | .agg c => bif decide (0 ≤ i) && decide (i < (n : Int)) then partcs n sz i.toNat a k c fun v => κ v H true else none
   | _ => none
  | _ => none
 | .ixs x i =>
  match i.ev e with
  | .int _ i =>
   match x.ev e with
   | .str s => match geti s i with | some b => κ (.int .u8 b.toNat) H true | none => none
   | _ => none
  | _ => none
 | .app sz bytes x y =>
  srcc H sz (y.ev e) fun n d =>
  match x.ev e with
  | .nils => bif decide (n * bytes ≤ 2 ^ 40) && decide (n ≤ 2 ^ 40) then κ (.sl H.length 0 n none sz) (H ++ [.cells false d]) true else none
  | .ez => bif decide (n * bytes ≤ 2 ^ 40) && decide (n ≤ 2 ^ 40) then κ (.sl H.length 0 n none sz) (H ++ [.cells false d]) true else none
  | .sl b off len cap sz' =>
   if sz = sz' then
    match cap with
    | some cap =>
     bif decide (cap < len + n) then
      bif decide ((len + n) * bytes ≤ 2 ^ 40) && decide (len + n ≤ 2 ^ 40) then
       srcc H sz (.sl b off len (some cap) sz') fun _ c => appc c d fun c => κ (.sl H.length 0 (len + n) none sz) (H ++ [.cells false c]) true
      else none
     else
      match H[b]? with
      | some (.cells ro c) => (match ro with | false => putc c (off + len * sz) d fun c => κ (.sl b off (len + n) (some cap) sz) (H.set b (.cells false c)) false | true => none)
      | _ => none
    | none =>
     match H[b]? with
     | some (.cells ro c) =>
      (match ro with
       | false => bif (off == 0) && ((c.len == len * sz) && (decide ((len + n) * bytes ≤ 2 ^ 40) && decide (len + n ≤ 2 ^ 40))) then appc c d fun c => κ (.sl H.length 0 (len + n) none sz) (H.set b .dead ++ [.cells false c]) false else none
       | true => none)
     | _ => none
   else none
  | _ => none
 | .stc n x y =>
  match x.ev e with
  | .ptr b o =>
   match H[b]? with
   | some (.cells ro c) =>
    (match ro with
     | false => match (y.ev e).cellsC with
      | some d => bif d.len == n then (if n = 1 ∧ (y.ev e).isCell then setc c o (y.ev e) fun c => κ (.tup []) (H.set b (.cells false c)) false else putc c o d fun c => κ (.tup []) (H.set b (.cells false c)) false) else none
      | none => none
     | true => none)
   | _ => none
  | _ => none
 | .cvs x =>
  match x.ev e with
  | .sl b off len _ sz =>
   match H[b]? with
   | some (.cells ro c) =>
    (match ro with
     | false =>
      match c with
      | .ints k l => if sz = 1 ∧ k = .u8 then bif decide (0 < len) && decide (off + len ≤ l.length) then κ (.tb (.int .u8) ((l.drop off).take len)) (H.set b .dead) false else none else none
      | _ => none
     | true => none)
   | _ => none
  | _ => none
 | .cpy sz x y =>
  srcc H sz (y.ev e) fun n d =>
  match x.ev e with
  | .sl b off len _ sz' =>
   match H[b]? with
   | some (.cells ro c) =>
    (match ro with
     | false => if sz = sz' then
       bif decide (n ≤ len) then putac c off (d.sub 0 (n * sz)) fun c => κ (.int .i64 n) (H.set b (.cells false c)) false
       else putac c off (d.sub 0 (len * sz)) fun c => κ (.int .i64 len) (H.set b (.cells false c)) false
      else none
     | true => none)
   | _ => none
  | _ => none
 | .clr sz z x =>
  match x.ev e with
  | .sl b off len _ sz' =>
   match H[b]? with
   | some (.cells ro c) =>
    (match ro with
     | false => if sz = sz' then bif decide (0 < len) then (match C.rep len z with | some d => putc c off d fun c => κ (.tup []) (H.set b (.cells false c)) false | none => none) else none else none
     | true => none)
   | _ => none
  | _ => none
 | .nxt x =>
  match x.ev e with
  | .ptr b o =>
   match H[b]? with
   | some (.iter s pos) =>
    if o ≠ 0 then none else
    bif decide (pos < s.length) then
     κ (.tup [.bool true, .int .i64 pos, .int .i32 (Utf8.decode ⟨s.toArray⟩ pos).1]) (H.set b (.iter s (pos + (Utf8.decode ⟨s.toArray⟩ pos).2))) false
    else κ (.tup [.bool false]) H false
   | _ => none
  | _ => none
 | .call _ _ => none
 | o =>
  match evQ o e H with
  | some p => κ p.1 (H ++ p.2) true
  | none => match evE o e H with | some p => κ p.1 p.2 false | none => none

theorem evN_q {o : O} {e : Env} {H news : List Blk} {v : V} (h : evQ o e H = some (v, news)) : evN o e H = some (v, H ++ news, true) := by simp only [evN, h]
theorem evN_q0 {o : O} {e : Env} {H : List Blk} {v : V} (h : evQ o e H = some (v, [])) : evN o e H = some (v, H, true) := by simp only [evN, h, List.append_nil]
theorem evN_e {o : O} {e : Env} {H H' : List Blk} {v : V} (h0 : evQ o e H = none) (h : evE o e H = some (v, H')) : evN o e H = some (v, H', false) := by simp only [evN, h0, h, Option.map_some]
theorem opt_evO {e : Env} (o : Option R) : R.evO e o = o.map (R.ev e) := rfl

theorem opc_spec {o : O} {e : Env} {H : List Blk} {κ : V → List Blk → Bool → Option α} {a : α} (h : opc o e H κ = some a) : ∃ v H' q, evN o e H = some (v, H', q) ∧ κ v H' q = some a := by
 have dflt : (match evQ o e H with | some p => κ p.1 (H ++ p.2) true | none => match evE o e H with | some p => κ p.1 p.2 false | none => none) = some a → ∃ v H' q, evN o e H = some (v, H', q) ∧ κ v H' q = some a := by
  intro h
  split at h
  ·rename_i p hp; exact ⟨_, _, _, evN_q hp, h⟩
  ·rename_i hp
   split at h <;> try (cases h; done)
   rename_i p hq; exact ⟨_, _, _, evN_e hp hq, h⟩
 cases o
 case pick c x y =>
  simp only [opc] at h
  split at h <;> try (cases h; done)
  rename_i t ht
  cases t with
  | true => exact ⟨_, _, _, evN_q0 (by simp only [evQ, ht]), h⟩
  | false => exact ⟨_, _, _, evN_q0 (by simp only [evQ, ht]), h⟩
 case bin op x y =>
  simp only [opc] at h
  obtain ⟨v, h1, h2⟩ := binc_spec h
  exact ⟨_, _, _, evN_q0 (by simp only [evQ, h1, Option.map_some]), h2⟩
 case build z ps =>
  simp only [opc] at h
  obtain ⟨c, h1, h2⟩ := putAllc_spec h
  exact ⟨_, _, _, evN_q0 (by simp only [evQ, h1, Option.map_some]), h2⟩
 case bsl len sz z ps =>
  simp only [opc] at h
  obtain ⟨c, h1, h2⟩ := putAllc_spec h
  obtain ⟨h3, h4⟩ := bif_some h2
  have : c.len = len * sz ∧ len * sz ≤ 2 ^ 20 := by simpa using h3
  exact ⟨_, _, _, evN_q (by simp only [evQ, h1, Option.bind_some, if_pos this] <;> rfl), h4⟩
 case ldc x =>
  simp only [opc] at h
  split at h <;> try (cases h; done)
  ·rename_i b o hx
   split at h <;> try (cases h; done)
   rename_i ro c hb
   obtain ⟨v, h1, h2⟩ := getc_spec h
   exact ⟨_, _, _, evN_q0 (by simp only [evQ, hx, hb, h1, Option.map_some]), h2⟩
  ·rename_i c hx
   obtain ⟨v, h1, h2⟩ := getc_spec h
   exact ⟨_, _, _, evN_q0 (by simp only [evQ, hx, h1, Option.map_some]), h2⟩
 case lda n k x =>
  simp only [opc] at h
  split at h <;> try (cases h; done)
  ·rename_i b o hx
   split at h <;> try (cases h; done)
   rename_i ro c hb
   obtain ⟨v, h1, h2⟩ := partc_spec h
   exact ⟨_, _, _, evN_q0 (by simp only [evQ, hx, hb, h1, Option.map_some]), h2⟩
  ·rename_i c hx
   obtain ⟨v, h1, h2⟩ := partc_spec h
   exact ⟨_, _, _, evN_q0 (by simp only [evQ, hx, h1, Option.map_some]), h2⟩
 case ldr x =>
  simp only [opc] at h
  split at h <;> try (cases h; done)
  rename_i c hx
  obtain ⟨v, h1, h2⟩ := getc_spec h
  exact ⟨_, _, _, evN_q0 (by simp only [evQ, hx, h1, Option.map_some]), h2⟩
 case lra n k x =>
  simp only [opc] at h
  split at h <;> try (cases h; done)
  rename_i c hx
  obtain ⟨v, h1, h2⟩ := partc_spec h
  exact ⟨_, _, _, evN_q0 (by simp only [evQ, hx, h1, Option.map_some]), h2⟩
 case eqa n neg x y =>
  simp only [opc] at h
  split at h <;> try (cases h; done)
  rename_i k l hx
  split at h <;> try (cases h; done)
  rename_i k' m hy
  split at h <;> try (cases h; done)
  rename_i hk
  obtain ⟨h1, h2⟩ := bif_some h
  have : k = k' ∧ l.length = n ∧ m.length = n := ⟨hk, by simpa using h1⟩
  exact ⟨_, _, _, evN_q0 (by simp only [evQ, hx, hy, if_pos this] <;> rfl), h2⟩
 case b2s x =>
  simp only [opc] at h
  split at h <;> try (cases h; done)
  rename_i hs
  obtain ⟨n, c, h1, h2⟩ := srcc_spec h
  split at h2
  ·split at h2 <;> try (cases h2; done)
   exact ⟨_, _, _, evN_q0 (by simp only [evQ, hs, h1]), h2⟩
  ·split at h2 <;> try (cases h2; done)
   exact ⟨_, _, _, evN_q0 (by simp only [evQ, hs, h1]), h2⟩
  ·cases h2
 case s2a n x =>
  simp only [opc] at h
  split at h <;> try (cases h; done)
  ·rename_i hx
   obtain ⟨h1, h2⟩ := bif_some h
   simp only [Bool.and_eq_true, decide_eq_true_eq] at h1
   exact ⟨_, _, _, evN_q0 (by simp only [evQ, hx, if_pos h1]), h2⟩
  ·rename_i hx
   obtain ⟨h1, h2⟩ := bif_some h
   simp only [Bool.and_eq_true, decide_eq_true_eq] at h1
   exact ⟨_, _, _, evN_q0 (by simp only [evQ, hx, if_pos h1]), h2⟩
  ·rename_i s l hx
   cases s <;> simp only [] at h <;> try (cases h; done)
   obtain ⟨h1, h2⟩ := bif_some h
   simp only [Bool.and_eq_true, decide_eq_true_eq] at h1
   exact ⟨_, _, _, evN_q0 (by simp only [evQ, hx, if_pos h1]), h2⟩
 case mks z sz bytes l c =>
  simp only [opc] at h
  split at h <;> try (cases h; done)
  rename_i k1 l1 hl
  split at h <;> try (cases h; done)
  rename_i k2 c1 hc
  obtain ⟨h1, h2⟩ := bif_some h
  simp only [Bool.and_eq_true, decide_eq_true_eq] at h1
  split at h2 <;> try (cases h2; done)
  rename_i d hd
  exact ⟨_, _, _, evN_q (by simp only [evQ, hl, hc, if_pos h1, hd, Option.map_some] <;> rfl), h2⟩
 case ssl x lo hi =>
  simp only [opc] at h
  split at h <;> try (cases h; done)
  rename_i s hx
  obtain ⟨l, h', m, h1, h2⟩ := bndsc_spec h
  exact ⟨_, _, _, evN_q0 (by simp only [evQ, hx, ← opt_evO, h1, Option.map_some]), h2⟩
 case sls sz x lo hi mx =>
  simp only [opc] at h
  split at h
  ·rename_i b off len cap sz' hx
   split at h <;> try (cases h; done)
   rename_i hs
   obtain ⟨l, h', m, h1, h2⟩ := bndsc_spec h
   exact ⟨_, _, _, evN_q0 (by simp only [evQ, hx, ← opt_evO, if_pos hs, h1, Option.map_some]), h2⟩
  ·rename_i s l hx
   split at h
   ·rename_i hs
    obtain ⟨a', b', m, h1, h2⟩ := bndsc_spec h
    exact ⟨_, _, _, evN_q0 (by simp only [evQ, hx, ← opt_evO, if_pos hs, h1, Option.map_some]), h2⟩
   ·rename_i hs
    obtain ⟨a', b', m, h1, h2⟩ := bndsc_spec h
    split at h2 <;> try (cases h2; done)
    split at h2 <;> try (cases h2; done)
    exact ⟨_, _, _, evN_q0 (by simp only [evQ, hx, ← opt_evO, if_neg hs, h1, Option.bind_some, if_true]), h2⟩
  ·rename_i hx
   obtain ⟨a', b', m, h1, h2⟩ := bndsc_spec h
   exact ⟨_, _, _, evN_q0 (by simp only [evQ, hx, ← opt_evO, h1, Option.map_some]), h2⟩
  ·rename_i hx
   obtain ⟨a', b', m, h1, h2⟩ := bndsc_spec h
   exact ⟨_, _, _, evN_q0 (by simp only [evQ, hx, ← opt_evO, h1, Option.map_some]), h2⟩
  ·split at h <;> try (cases h; done)
   rename_i p hp
   exact ⟨_, _, _, evN_q hp, h⟩
 case sla n sz x lo hi mx =>
  simp only [opc] at h
  split at h <;> try (cases h; done)
  ·rename_i b off hx
   obtain ⟨h1, h2⟩ := bif_some h
   obtain ⟨l, h', m, h3, h4⟩ := bndsc_spec h2
   exact ⟨_, _, _, evN_q0 (by simp only [evQ, hx, ← opt_evO, if_pos h1, h3, Option.map_some]), h4⟩
  ·rename_i c hx
   obtain ⟨l, h', m, h3, h4⟩ := bndsc_spec h
   obtain ⟨h1, h2⟩ := bif_some h4
   exact ⟨_, _, _, evN_q0 (by simp only [evQ, hx, ← opt_evO, h3, Option.bind_some, if_pos (of_decide_eq_true h1)]), h2⟩
 case slr n sz x lo hi mx =>
  simp only [opc] at h
  split at h <;> try (cases h; done)
  rename_i c hx
  obtain ⟨l, h', m, h3, h4⟩ := bndsc_spec h
  obtain ⟨h1, h2⟩ := bif_some h4
  exact ⟨_, _, _, evN_q0 (by simp only [evQ, hx, ← opt_evO, h3, Option.bind_some, if_pos (of_decide_eq_true h1)]), h2⟩
 case fld off n b k x =>
  simp only [opc] at h
  split at h <;> try (cases h; done)
  rename_i c hx
  obtain ⟨v, h1, h2⟩ := partc_spec h
  exact ⟨_, _, _, evN_q0 (by simp only [evQ, hx, h1, Option.map_some]), h2⟩
 case iad sz x i =>
  simp only [opc] at h
  split at h <;> try (cases h; done)
  rename_i k ix hi
  split at h <;> try (cases h; done)
  ·rename_i hx
   obtain ⟨h1, h2⟩ := bif_some h
   simp only [Bool.and_eq_true, decide_eq_true_eq] at h1
   split at h2
   ·exact ⟨_, _, _, evN_q0 (by simp only [evQ, hx, hi, if_pos h1]), selN_spec (κ := fun t => κ (.ptr _ (_ + t * sz)) H true) h2⟩
   ·exact ⟨_, _, _, evN_q0 (by simp only [evQ, hx, hi, if_pos h1]), h2⟩
  ·rename_i s l hx
   split at h <;> try (cases h; done)
   rename_i hs
   split at h <;> try (cases h; done)
   rename_i r hr
   exact ⟨_, _, _, evN_q0 (by simp only [evQ, hx, hi, if_pos hs]; rw [show (if 0 ≤ ix then l[ix.toNat]? else none) = some r from hr]; rfl), h⟩
  ·rename_i hx
   obtain ⟨h1, h2⟩ := bif_some h
   simp only [Bool.and_eq_true, decide_eq_true_eq] at h1
   exact ⟨_, _, _, evN_q0 (by simp only [evQ, hx, hi, if_pos h1]), h2⟩
 case iaa n sz x i =>
  simp only [opc] at h
  split at h <;> try (cases h; done)
  rename_i k ix hi
  split at h <;> try (cases h; done)
  ·rename_i hx
   obtain ⟨h1, h2⟩ := bif_some h
   simp only [Bool.and_eq_true, decide_eq_true_eq] at h1
   split at h2
   ·exact ⟨_, _, _, evN_q0 (by simp only [evQ, hx, hi, if_pos h1]), selN_spec (κ := fun t => κ (.ptr _ (_ + t * sz)) H true) h2⟩
   ·exact ⟨_, _, _, evN_q0 (by simp only [evQ, hx, hi, if_pos h1]), h2⟩
  ·rename_i hx
   obtain ⟨h1, h2⟩ := bif_some h
   simp only [Bool.and_eq_true, decide_eq_true_eq] at h1
   split at h2
   ·exact ⟨_, _, _, evN_q0 (by simp only [evQ, hx, hi, if_pos h1]), selN_spec (κ := fun t => κ (.rptr (C.drop (t * sz) _)) H true) h2⟩
   ·exact ⟨_, _, _, evN_q0 (by simp only [evQ, hx, hi, if_pos h1]), h2⟩
 case ixa n sz b k x i =>
  simp only [opc] at h
  split at h <;> try (cases h; done)
  rename_i k ix hi
  split at h <;> try (cases h; done)
  rename_i c hx
  obtain ⟨h1, h2⟩ := bif_some h
  simp only [Bool.and_eq_true, decide_eq_true_eq] at h1
  obtain ⟨v, h3, h4⟩ := partcs_spec h2
  exact ⟨_, _, _, evN_q0 (by simp only [evQ, hx, hi, if_pos h1, h3, Option.map_some]), h4⟩
 case ixs x i =>
  simp only [opc] at h
  split at h <;> try (cases h; done)
  rename_i k ix hi
  split at h <;> try (cases h; done)
  rename_i s hx
  split at h <;> try (cases h; done)
  rename_i b hb
  unfold geti at hb
  split at hb <;> try (cases hb; done)
  rename_i h0
  exact ⟨_, _, _, evN_q0 (by simp only [evQ, hx, hi, if_pos h0, hb, Option.map_some]), h⟩
 case app sz bytes x y =>
  simp only [opc] at h
  obtain ⟨n, d, hd, h⟩ := srcc_spec h
  split at h <;> try (cases h; done)
  ·rename_i hx
   obtain ⟨h1, h2⟩ := bif_some h
   simp only [Bool.and_eq_true, decide_eq_true_eq] at h1
   exact ⟨_, _, _, evN_q (by simp only [evQ, hd, hx, Option.bind_some, if_pos h1] <;> rfl), h2⟩
  ·rename_i hx
   obtain ⟨h1, h2⟩ := bif_some h
   simp only [Bool.and_eq_true, decide_eq_true_eq] at h1
   exact ⟨_, _, _, evN_q (by simp only [evQ, hd, hx, Option.bind_some, if_pos h1] <;> rfl), h2⟩
  ·rename_i b off len cap sz' hx
   split at h <;> try (cases h; done)
   rename_i hs
   subst hs
   split at h
   ·rename_i cap
    cases hcap : decide (cap < len + n) with
    | true =>
     rw [hcap] at h
     simp only [cond_true] at h
     obtain ⟨h1, h2⟩ := bif_some h
     simp only [Bool.and_eq_true, decide_eq_true_eq] at h1
     obtain ⟨n2, c, h3, h4⟩ := srcc_spec h2
     obtain ⟨z, h5, h6⟩ := appc_spec h4
     have hc : True ∧ cap < len + n ∧ (len + n) * bytes ≤ 2 ^ 40 ∧ len + n ≤ 2 ^ 40 := ⟨trivial, of_decide_eq_true hcap, h1.1, h1.2⟩
     exact ⟨_, _, _, evN_q (by simp only [evQ, hd, hx, Option.bind_some, if_pos hc, h3, h5, Option.map_some] <;> rfl), h6⟩
    | false =>
     rw [hcap] at h
     simp only [cond_false] at h
     have hn : ¬ cap < len + n := by simpa using hcap
     split at h <;> try (cases h; done)
     rename_i ro c hb
     split at h <;> try (cases h; done)
     obtain ⟨z, h5, h6⟩ := putc_spec h
     have hc : ¬ (True ∧ cap < len + n ∧ (len + n) * bytes ≤ 2 ^ 40 ∧ len + n ≤ 2 ^ 40) := fun hh => hn hh.2.1
     refine ⟨_, _, _, evN_e (by simp only [evQ, hd, hx, Option.bind_some, if_neg hc]) (by simp only [evE, hd, hx, Option.bind_some, hb, if_pos (And.intro trivial (show len + n ≤ cap by omega) : True ∧ len + n ≤ cap), h5, Option.map_some] <;> rfl), h6⟩
   ·split at h <;> try (cases h; done)
    rename_i ro c hb
    split at h <;> try (cases h; done)
    obtain ⟨h1, h2⟩ := bif_some h
    simp only [Bool.and_eq_true, decide_eq_true_eq, beq_iff_eq] at h1
    obtain ⟨z, h5, h6⟩ := appc_spec h2
    have hc : True ∧ off = 0 ∧ c.len = len * sz ∧ (len + n) * bytes ≤ 2 ^ 40 ∧ len + n ≤ 2 ^ 40 := ⟨trivial, h1⟩
    exact ⟨_, _, _, evN_e (by simp only [evQ, hd, hx, Option.bind_some]) (by simp only [evE, hd, hx, Option.bind_some, hb, if_pos hc, h5, Option.map_some] <;> rfl), h6⟩
 case stc n x y =>
  simp only [opc] at h
  split at h <;> try (cases h; done)
  rename_i b o hx
  split at h <;> try (cases h; done)
  rename_i ro c hb
  split at h <;> try (cases h; done)
  split at h <;> try (cases h; done)
  rename_i d hd
  obtain ⟨h1, h2⟩ := bif_some h
  have hdn : d.len = n := by simpa using h1
  split at h2
  ·rename_i hc
   obtain ⟨z, h3, h4⟩ := setc_spec h2
   exact ⟨_, _, _, evN_e (by simp only [evQ]) (by simp only [evE, hx, hb, hd, Option.bind_some, if_pos hdn, if_pos hc, h3, Option.map_some] <;> rfl), h4⟩
  ·rename_i hc
   obtain ⟨z, h3, h4⟩ := putc_spec h2
   exact ⟨_, _, _, evN_e (by simp only [evQ]) (by simp only [evE, hx, hb, hd, Option.bind_some, if_pos hdn, if_neg hc, h3, Option.map_some] <;> rfl), h4⟩
 case cvm x =>
  simp only [opc] at h
  split at h <;> try (cases h; done)
  rename_i b off len cap sz hx
  split at h <;> try (cases h; done)
  rename_i ro c hb
  split at h <;> try (cases h; done)
  split at h <;> try (cases h; done)
  rename_i k l
  split at h <;> try (cases h; done)
  rename_i hc
  obtain ⟨h1, h2⟩ := bif_some h
  exact ⟨_, _, _, evN_q0 (by simp only [evQ, hx, hb]; rw [if_pos ⟨by simpa using h1, hc⟩]), h2⟩
 case cvs x =>
  simp only [opc] at h
  split at h <;> try (cases h; done)
  rename_i b off len cap sz hx
  split at h <;> try (cases h; done)
  rename_i ro c hb
  split at h <;> try (cases h; done)
  split at h <;> try (cases h; done)
  rename_i k l
  split at h <;> try (cases h; done)
  rename_i hc
  cases hle : (decide (0 < len) && decide (off + len ≤ l.length)) with
  | false => rw [hle] at h; cases h
  | true =>
   rw [hle] at h
   simp only [Bool.and_eq_true, decide_eq_true_eq] at hle
   exact ⟨_, _, _, evN_e (by simp only [evQ]) (by simp only [evE, hx, hb, if_pos (show 0 < len ∧ sz = 1 ∧ k = .u8 ∧ off + len ≤ l.length from ⟨hle.1, hc.1, hc.2, hle.2⟩)] <;> rfl), h⟩
 case cpy sz x y =>
  simp only [opc] at h
  obtain ⟨n, d, hd, h⟩ := srcc_spec h
  split at h <;> try (cases h; done)
  rename_i b off len cap sz' hx
  split at h <;> try (cases h; done)
  rename_i ro c hb
  split at h <;> try (cases h; done)
  split at h <;> try (cases h; done)
  rename_i hs
  cases hle : decide (n ≤ len) with
  | true =>
   rw [hle] at h
   simp only [cond_true] at h
   have hle' : n ≤ len := of_decide_eq_true hle
   obtain ⟨z, h3, h4⟩ := putac_spec h
   exact ⟨_, _, _, evN_e (by simp only [evQ]) (by simp only [evE, hx, hb, hd, Option.bind_some, if_pos hs, if_pos hle', h3, Option.map_some] <;> rfl), h4⟩
  | false =>
   rw [hle] at h
   simp only [cond_false] at h
   have hle' : ¬ n ≤ len := by simpa using hle
   obtain ⟨z, h3, h4⟩ := putac_spec h
   exact ⟨_, _, _, evN_e (by simp only [evQ]) (by simp only [evE, hx, hb, hd, Option.bind_some, if_pos hs, if_neg hle', h3, Option.map_some] <;> rfl), h4⟩
 case clr sz z x =>
  simp only [opc] at h
  split at h <;> try (cases h; done)
  rename_i b off len cap sz' hx
  split at h <;> try (cases h; done)
  rename_i ro c hb
  split at h <;> try (cases h; done)
  split at h <;> try (cases h; done)
  rename_i hs
  obtain ⟨h1, h2⟩ := bif_some h
  split at h2 <;> try (cases h2; done)
  rename_i d hd
  obtain ⟨z', h3, h4⟩ := putc_spec h2
  have hc : 0 < len ∧ sz = sz' := ⟨of_decide_eq_true h1, hs⟩
  exact ⟨_, _, _, evN_e (by simp only [evQ]) (by simp only [evE, hx, hb, if_pos hc, hd, Option.bind_some, h3, Option.map_some] <;> rfl), h4⟩
 case nxt x =>
  simp only [opc] at h
  split at h <;> try (cases h; done)
  rename_i b o hx
  split at h <;> try (cases h; done)
  rename_i s pos hb
  split at h <;> try (cases h; done)
  rename_i ho
  cases hlt : decide (pos < s.length) with
  | true =>
   rw [hlt] at h
   simp only [cond_true] at h
   have hlt' : pos < s.length := of_decide_eq_true hlt
   exact ⟨_, _, _, evN_e (by simp only [evQ]) (by simp only [evE, hx, hb, if_neg ho, if_pos hlt'] <;> rfl), h⟩
  | false =>
   rw [hlt] at h
   simp only [cond_false] at h
   have hlt' : ¬ pos < s.length := by simpa using hlt
   exact ⟨_, _, _, evN_e (by simp only [evQ]) (by simp only [evE, hx, hb, if_neg ho, if_neg hlt'] <;> rfl), h⟩
 case call f xs => simp [opc] at h
 all_goals exact dflt h
end Go.Proofs.YtchoafdpckknmaaDoorE
