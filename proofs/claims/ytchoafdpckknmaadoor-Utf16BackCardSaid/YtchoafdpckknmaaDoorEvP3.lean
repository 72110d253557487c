/- The evaluator, handing on what it finds: states as data, loops, functions. -/
import Derived.Test.YtchoafdpckknmaaDoorEvP2
namespace Go.Proofs.YtchoafdpckknmaaDoorE
open Go
set_option linter.unusedSimpArgs false
set_option linter.unusedVariables false
variable {α : Type}

/-! ### states as data -/
mutual
inductive Pv where
 | u
 | int (k : IntKind)
 | bool
 | str
 | tb (s : Sh)
 | ar (k : IntKind)
 | sl (b sz : Nat)
 | slc (b sz : Nat)
 | slk (b n sz : Nat)
 | ik (k : IntKind) (n : Int)
 | tru
 | ptr (b o : Nat)
 | nilp
 | nils
 | ez
 | nilf
 | tup0
 | fn (g : Nat) (l : Pvs)
 | vs (l : Pvs)
 | im (l : Pvs)
 | tp (l : Pvs)
inductive Pvs where
 | nil
 | cons (p : Pv) (l : Pvs)
end
mutual
@[reducible] def Pv.T : Pv → Type
 | .int _ => Int
 | .bool => Bool
 | .str => List UInt8
 | .tb s => List s.T
 | .ar _ => List Int
 | .sl _ _ => Nat
 | .slc _ _ => Nat × Nat
 | .fn _ l => l.T
 | .vs l => l.T
 | .im l => l.T
 | .tp l => l.T
 | _ => Unit
@[reducible] def Pvs.T : Pvs → Type
 | .nil => Unit
 | .cons p l => p.T × l.T
end
mutual
def Pv.st : (p : Pv) → p.T → V
 | .u, _ => .undef
 | .int k, n => .int k n
 | .bool, b => .bool b
 | .str, s => .str s
 | .tb s, l => .tb s l
 | .ar k, l => .agg (.ints k l)
 | .sl b sz, n => .sl b 0 n none sz
 | .slc b sz, p => .sl b 0 p.1 (some p.2) sz
 | .slk b n sz, _ => .sl b 0 n none sz
 | .ik k n, _ => .int k n
 | .tru, _ => .bool true
 | .ptr b o, _ => .ptr b o
 | .nilp, _ => .nilp
 | .nils, _ => .nils
 | .ez, _ => .ez
 | .nilf, _ => .nilf
 | .tup0, _ => .tup []
 | .fn g l, v => .fn g (l.st v)
 | .vs l, v => .agg (.vals (l.st v))
 | .im l, v => .agg (.imm (l.st v))
 | .tp l, v => .tup (l.st v)
def Pvs.st : (l : Pvs) → l.T → List V
 | .nil, _ => []
 | .cons p l, v => p.st v.1 :: l.st v.2
end
mutual
def Pv.dec : (p : Pv) → V → Option p.T
 | .u, v => match v with | .undef => some () | _ => none
 | .int k, v => match v with | .int k' n => if k' = k then some n else none | _ => none
 | .bool, v => match v with | .bool b => some b | _ => none
 | .str, v => match v with | .str s => some s | _ => none
 | .tb s, v => match v with | .tb s' l => (match Sh.same s' s with | some h => some (Sh.cast h l) | none => none) | _ => none
 | .ar k, v => match v with | .agg (.ints k' l) => if k' = k then some l else none | _ => none
 | .sl b sz, v => match v with | .sl b' off n cap sz' => if b' = b ∧ off = 0 ∧ sz' = sz then (match cap with | none => some n | some _ => none) else none | _ => none
 | .slc b sz, v => match v with | .sl b' off n cap sz' => if b' = b ∧ off = 0 ∧ sz' = sz then (match cap with | none => none | some c => some (n, c)) else none | _ => none
 | .slk b m sz, v => match v with | .sl b' off n cap sz' => if b' = b ∧ off = 0 ∧ sz' = sz ∧ n = m then (match cap with | none => some () | some _ => none) else none | _ => none
 | .ik k n, v => match v with | .int k' m => if k' = k ∧ m = n then some () else none | _ => none
 | .tru, v => match v with | .bool b => (match b with | true => some () | false => none) | _ => none
 | .ptr b o, v => match v with | .ptr b' o' => if b' = b ∧ o' = o then some () else none | _ => none
 | .nilp, v => match v with | .nilp => some () | _ => none
 | .nils, v => match v with | .nils => some () | _ => none
 | .ez, v => match v with | .ez => some () | _ => none
 | .nilf, v => match v with | .nilf => some () | _ => none
 | .tup0, v => match v with | .tup l => (match l with | [] => some () | _ => none) | _ => none
 | .fn g l, v => match v with | .fn g' caps => if g' = g then l.dec caps else none | _ => none
 | .vs l, v => match v with | .agg (.vals vs) => l.dec vs | _ => none
 | .im l, v => match v with | .agg (.imm vs) => l.dec vs | _ => none
 | .tp l, v => match v with | .tup vs => l.dec vs | _ => none
def Pvs.dec : (l : Pvs) → List V → Option l.T
 | .nil, v => match v with | [] => some () | _ => none
 | .cons p l, v => match v with | x :: r => (match p.dec x with | some a => (match l.dec r with | some b => some (a, b) | none => none) | none => none) | _ => none
end
theorem tb_cast {a b : Sh} (h : PLift (a = b)) (l : List a.T) : V.tb a l = V.tb b (Sh.cast h l) := by
 obtain ⟨h⟩ := h; subst h; rfl
mutual
theorem Pv.exact : ∀ (p : Pv) (v : V) (x : p.T), p.dec v = some x → v = p.st x
 | .u, v, x, h => by simp only [Pv.dec] at h; split at h <;> first | rfl | (cases h; done)
 | .int k, v, x, h => by
  simp only [Pv.dec] at h; split at h <;> try (cases h; done)
  split at h <;> try (cases h; done)
  rename_i e; subst e; injection h with h; subst h; rfl
 | .bool, v, x, h => by
  simp only [Pv.dec] at h
  split at h <;> try (cases h; done)
  injection h with h; subst h; rfl
 | .str, v, x, h => by
  simp only [Pv.dec] at h
  split at h <;> try (cases h; done)
  injection h with h; subst h; rfl
 | .tb s, v, x, h => by
  simp only [Pv.dec] at h; split at h <;> try (cases h; done)
  split at h <;> try (cases h; done)
  injection h with h; subst h; exact tb_cast _ _
 | .ar k, v, x, h => by
  simp only [Pv.dec] at h; split at h <;> try (cases h; done)
  split at h <;> try (cases h; done)
  rename_i e; subst e; injection h with h; subst h; rfl
 | .sl b sz, v, x, h => by
  simp only [Pv.dec] at h; split at h <;> try (cases h; done)
  split at h <;> try (cases h; done)
  rename_i e; obtain ⟨rfl, rfl, rfl⟩ := e
  split at h <;> try (cases h; done)
  injection h with h; subst h; rfl
 | .slc b sz, v, x, h => by
  simp only [Pv.dec] at h; split at h <;> try (cases h; done)
  split at h <;> try (cases h; done)
  rename_i e; obtain ⟨rfl, rfl, rfl⟩ := e
  split at h <;> try (cases h; done)
  injection h with h; subst h; rfl
 | .slk b m sz, v, x, h => by
  simp only [Pv.dec] at h; split at h <;> try (cases h; done)
  split at h <;> try (cases h; done)
  rename_i e; obtain ⟨rfl, rfl, rfl, rfl⟩ := e
  split at h <;> first | rfl | (cases h; done)
 | .ik k n, v, x, h => by
  simp only [Pv.dec] at h; split at h <;> try (cases h; done)
  split at h <;> try (cases h; done)
  rename_i e; obtain ⟨rfl, rfl⟩ := e; rfl
 | .tru, v, x, h => by
  simp only [Pv.dec] at h; split at h <;> try (cases h; done)
  split at h <;> first | rfl | (cases h; done)
 | .ptr b o, v, x, h => by
  simp only [Pv.dec] at h; split at h <;> try (cases h; done)
  split at h <;> try (cases h; done)
  rename_i e; obtain ⟨rfl, rfl⟩ := e; rfl
 | .nilp, v, x, h => by simp only [Pv.dec] at h; split at h <;> first | rfl | (cases h; done)
 | .nils, v, x, h => by simp only [Pv.dec] at h; split at h <;> first | rfl | (cases h; done)
 | .ez, v, x, h => by simp only [Pv.dec] at h; split at h <;> first | rfl | (cases h; done)
 | .nilf, v, x, h => by simp only [Pv.dec] at h; split at h <;> first | rfl | (cases h; done)
 | .tup0, v, x, h => by
  simp only [Pv.dec] at h; split at h <;> try (cases h; done)
  split at h <;> first | rfl | (cases h; done)
 | .fn g l, v, x, h => by
  simp only [Pv.dec] at h; split at h <;> try (cases h; done)
  split at h <;> try (cases h; done)
  rename_i e; subst e
  show _ = V.fn _ _
  rw [← Pvs.exact l _ x h]
 | .vs l, v, x, h => by
  simp only [Pv.dec] at h; split at h <;> try (cases h; done)
  show _ = V.agg (.vals _)
  rw [← Pvs.exact l _ x h]
 | .im l, v, x, h => by
  simp only [Pv.dec] at h; split at h <;> try (cases h; done)
  show _ = V.agg (.imm _)
  rw [← Pvs.exact l _ x h]
 | .tp l, v, x, h => by
  simp only [Pv.dec] at h; split at h <;> try (cases h; done)
  show _ = V.tup _
  rw [← Pvs.exact l _ x h]
theorem Pvs.exact : ∀ (l : Pvs) (v : List V) (x : l.T), l.dec v = some x → v = l.st x
 | .nil, v, x, h => by simp only [Pvs.dec] at h; split at h <;> first | rfl | (cases h; done)
 | .cons p l, v, x, h => by
  simp only [Pvs.dec] at h; split at h <;> try (cases h; done)
  split at h <;> try (cases h; done)
  rename_i a ha
  split at h <;> try (cases h; done)
  rename_i b hb
  injection h with h; subst h
  show _ = _ :: _
  rw [Pv.exact p _ a ha, Pvs.exact l _ b hb]
end
inductive Pb where
 | ints (ro : Bool) (k : IntKind)
 | imm (ro : Bool)
 | vals (ro : Bool) (l : Pvs)
 | iter
 | dead
@[reducible] def Pb.T : Pb → Type
 | .ints _ _ => List Int
 | .imm _ => List V
 | .vals _ l => l.T
 | .iter => List UInt8 × Nat
 | .dead => Unit
def Pb.st : (p : Pb) → p.T → Blk
 | .ints ro k, l => .cells ro (.ints k l)
 | .imm ro, l => .cells ro (.imm l)
 | .vals ro l, v => .cells ro (.vals (l.st v))
 | .iter, p => .iter p.1 p.2
 | .dead, _ => .dead
def Pb.dec : (p : Pb) → Blk → Option p.T
 | .ints ro k, b => match b with | .cells ro' (.ints k' l) => if ro' = ro ∧ k' = k then some l else none | _ => none
 | .imm ro, b => match b with | .cells ro' (.imm l) => if ro' = ro then some l else none | _ => none
 | .vals ro l, b => match b with | .cells ro' (.vals vs) => if ro' = ro then l.dec vs else none | _ => none
 | .iter, b => match b with | .iter s n => some (s, n) | _ => none
 | .dead, b => match b with | .dead => some () | _ => none
theorem Pb.exact : ∀ (p : Pb) (b : Blk) (x : p.T), p.dec b = some x → b = p.st x
 | .ints ro k, b, x, h => by
  simp only [Pb.dec] at h; split at h <;> try (cases h; done)
  split at h <;> try (cases h; done)
  rename_i e; obtain ⟨rfl, rfl⟩ := e; injection h with h; subst h; rfl
 | .imm ro, b, x, h => by
  simp only [Pb.dec] at h; split at h <;> try (cases h; done)
  split at h <;> try (cases h; done)
  rename_i e; subst e; injection h with h; subst h; rfl
 | .vals ro l, b, x, h => by
  simp only [Pb.dec] at h; split at h <;> try (cases h; done)
  split at h <;> try (cases h; done)
  rename_i e; subst e
  show _ = Blk.cells _ (.vals _)
  rw [← Pvs.exact l _ x h]
 | .iter, b, x, h => by
  simp only [Pb.dec] at h
  split at h <;> try (cases h; done)
  injection h with h; subst h; rfl
 | .dead, b, x, h => by simp only [Pb.dec] at h; split at h <;> first | rfl | (cases h; done)
@[reducible] def ET : List (Nat × Pv) → Type
 | [] => Unit
 | p :: l => p.2.T × ET l
def stE : (l : List (Nat × Pv)) → ET l → Env
 | [], _ => []
 | p :: l, v => (p.1, p.2.st v.1) :: stE l v.2
def decE : (l : List (Nat × Pv)) → Env → Option (ET l)
 | [], e => match e with | [] => some () | _ => none
 | p :: l, e => match e with | q :: r => if q.1 = p.1 then (match p.2.dec q.2 with | some a => (match decE l r with | some b => some (a, b) | none => none) | none => none) else none | _ => none
theorem decE_exact : ∀ (l : List (Nat × Pv)) (e : Env) (x : ET l), decE l e = some x → e = stE l x
 | [], e, x, h => by simp only [decE] at h; split at h <;> first | rfl | (cases h; done)
 | p :: l, e, x, h => by
  simp only [decE] at h; split at h <;> try (cases h; done)
  split at h <;> try (cases h; done)
  rename_i hq
  split at h <;> try (cases h; done)
  rename_i a ha
  split at h <;> try (cases h; done)
  rename_i b hb
  injection h with h; subst h
  show _ = (_, _) :: _
  rw [← decE_exact l _ b hb, ← Pv.exact _ _ a ha, ← hq]
@[reducible] def HT : List Pb → Type
 | [] => Unit
 | p :: l => p.T × HT l
def stH : (l : List Pb) → HT l → List Blk
 | [], _ => []
 | p :: l, v => p.st v.1 :: stH l v.2
def decH : (l : List Pb) → List Blk → Option (HT l)
 | [], e => match e with | [] => some () | _ => none
 | p :: l, e => match e with | q :: r => (match p.dec q with | some a => (match decH l r with | some b => some (a, b) | none => none) | none => none) | _ => none
theorem decH_exact : ∀ (l : List Pb) (e : List Blk) (x : HT l), decH l e = some x → e = stH l x
 | [], e, x, h => by simp only [decH] at h; split at h <;> first | rfl | (cases h; done)
 | p :: l, e, x, h => by
  simp only [decH] at h; split at h <;> try (cases h; done)
  split at h <;> try (cases h; done)
  rename_i a ha
  split at h <;> try (cases h; done)
  rename_i b hb
  injection h with h; subst h
  show _ = _ :: _
  rw [← decH_exact l _ b hb, ← Pb.exact _ _ a ha]
structure Ps where
 e : List (Nat × Pv)
 h : List Pb
@[reducible] def Ps.T (p : Ps) : Type := ET p.e × HT p.h
def Ps.st (p : Ps) (v : p.T) : St := (stE p.e v.1, stH p.h v.2)
def Ps.dec (p : Ps) (s : St) : Option p.T :=
 match decE p.e s.1 with
 | some a => (match decH p.h s.2 with | some b => some (a, b) | none => none)
 | none => none
theorem Ps.exact (p : Ps) {s : St} {x : p.T} (h : p.dec s = some x) : s = p.st x := by
 simp only [Ps.dec] at h
 split at h <;> try (cases h; done)
 rename_i a ha
 split at h <;> try (cases h; done)
 rename_i b hb
 injection h with h; subst h
 obtain ⟨e, H⟩ := s
 show _ = (_, _)
 rw [← decE_exact _ _ a ha, ← decH_exact _ _ b hb]
/-- nothing is of it -/
def noPs : Ps := ⟨[(0, .u), (0, .nilp)], []⟩

/-! ### loops -/
variable {F : Nat → Option Fun} {X : Nat → List V → Option (V × List Blk)} {tab : Nat → Option Ent} {raw : RawF α} {LP : LoopF α} {ret : St → Option α} {n0 : Nat}
/-- what goes on behind a loop's round -/
def roundK (n0 : Nat) (t : Trim) (P : Ps) (Q : Nat → Ps) (pl : P.T → ((i : Nat) → (Q i).T → Option α) → Option α) (k : (i : Nat) → (Q i).T → Option α) : Ex → St → Option α := fun r s =>
 match r with
 | .norm => trimc n0 t s fun s1 => match P.dec s1 with | some v => pl v k | none => none
 | .exit i => match (Q i).dec s with | some x => k i x | none => none
 | _ => none
def lpOf (n0 : Nat) (t : Trim) (P : Ps) (Q : Nat → Ps) (pl : P.T → ((i : Nat) → (Q i).T → Option α) → Option α) (s : St) (κ : Ex → St → Option α) : Option α :=
 trimc n0 t s fun s0 => match P.dec s0 with | some v => pl v (fun i x => κ (.exit i) ((Q i).st x)) | none => none
theorem loop_out (hT : TabOK F X tab) (hO : RawOK F X raw) {P : Ps} {Q : Nat → Ps} {pL : Nat → P.T → ((i : Nat) → (Q i).T → Option α) → Option α} {t : Trim} {b : K} {fu : Nat}
  (h0 : ∀ v k, pL 0 v k = none)
  (hS : ∀ n v k, evc tab raw LP ret (modeOf F) n0 fu b (P.st v) (roundK n0 t P Q (pL n) k) = pL (n + 1) v k)
  (hL : LoopOK F X n0 ret LP (lps b)) (N : Nat) {s : St} {κ : Ex → St → Option α} {a : α} (h : lpOf n0 t P Q (pL N) s κ = some a) : Out F X n0 ret (.loop t b) s κ a := by
 have main : ∀ (n : Nat) (v : P.T) (s : St) (a : α), trim n0 t s = some (P.st v) → pL n v (fun i x => κ (.exit i) ((Q i).st x)) = some a → Out F X n0 ret (.loop t b) s κ a := by
  intro n
  induction n with
  | zero => intro v s a _ h; rw [h0] at h; cases h
  | succ n ih =>
   intro v s a hs h
   rw [← hS] at h
   rcases evc_spec hT hO fu b _ _ _ hL h with ⟨r, s', hr, h1, h2⟩ | ⟨s', h1, h2⟩
   ·cases r with
    | norm =>
     simp only [roundK] at h2
     obtain ⟨s1, h3, h4⟩ := trimc_spec h2
     split at h4 <;> try (cases h4; done)
     rename_i v' hv'
     rw [P.exact hv'] at h3
     rcases ih v' s' a h3 h4 with ⟨r2, s2, hr2, h5, h6⟩ | ⟨s2, h5, h6⟩
     ·exact .inl ⟨r2, s2, hr2, runs_loop hs h1 h5, h6⟩
     ·exact .inr ⟨s2, runs_loop hs h1 h5, h6⟩
    | exit i =>
     simp only [roundK] at h2
     split at h2 <;> try (cases h2; done)
     rename_i x hx
     have hs' := (Q i).exact hx
     exact .inl ⟨_, s', by simp, runs_loop_out hs h1 (by simp), by rw [hs']; exact h2⟩
    | goto l => simp [roundK] at h2
    | ret => exact absurd rfl hr
   ·exact .inr ⟨s', runs_loop_out hs h1 (by simp), h2⟩
 simp only [lpOf] at h
 obtain ⟨s0, h1, h2⟩ := trimc_spec h
 split at h2 <;> try (cases h2; done)
 rename_i v hv
 rw [P.exact hv] at h1
 exact main N v s a h1 h2

/-! ### functions -/
def resOfc (e : Env) (H : List Blk) (r : Res) (κ : V → Option α) : Option α :=
 match r with
 | .tmp t => κ (look e t)
 | .cell t n a k =>
  match look e t with
  | .ptr b o => match H[b]? with | some (.cells _ c) => partc o n a k c κ | _ => none
  | _ => none
def resultsc (e : Env) (H : List Blk) (κ : List V → Option α) : List Res → List V → Option α
 | [], vs => κ vs
 | r :: rs, vs => resOfc e H r fun v => resultsc e H κ rs (vs ++ [v])
theorem resOfc_spec {e : Env} {H : List Blk} {r : Res} {κ : V → Option α} {a : α} (h : resOfc e H r κ = some a) : ∃ v, resOf e H r = some v ∧ κ v = some a := by
 cases r with
 | tmp t => exact ⟨_, rfl, h⟩
 | cell t n b k =>
  simp only [resOfc] at h
  split at h <;> try (cases h; done)
  rename_i hl
  split at h <;> try (cases h; done)
  rename_i hb
  obtain ⟨v, h1, h2⟩ := partc_spec h
  exact ⟨v, by simp only [resOf, hl, hb]; exact h1, h2⟩
theorem resultsc_spec {e : Env} {H : List Blk} {κ : List V → Option α} {a : α} : ∀ {rs : List Res} {vs : List V}, resultsc e H κ rs vs = some a → ∃ l, rs.mapM (resOf e H) = some l ∧ κ (vs ++ l) = some a
 | [], vs, h => ⟨[], rfl, by simpa [resultsc] using h⟩
 | r :: rs, vs, h => by
  simp only [resultsc] at h
  obtain ⟨v, h1, h2⟩ := resOfc_spec h
  obtain ⟨l, h3, h4⟩ := resultsc_spec h2
  exact ⟨v :: l, by simp only [List.mapM_cons, h1, h3, Option.bind_eq_bind, Option.bind_some, Option.pure_def], by simpa using h4⟩
/-- a function's result as data -/
def retc (rs : List Res) (R : Sh) (s : St) : Option R.T :=
 resultsc s.1 s.2 (fun l => match compact 0 [one1 l] s.2 with | some p => (match p.1 with | v :: _ => toTc p.2 (List.range p.2.length) R v some | [] => none) | none => none) rs []
/-- what a function's end hands on -/
def endK (ret : St → Option α) : Ex → St → Option α := fun r s => match r with | .norm => ret s | _ => none
theorem ans_c {g : Nat} {fn : Fun} {R : Sh} {raw : RawF R.T} {LP : LoopF R.T} {args : List V} {fu : Nat} {z : R.T} (hT : TabOK F X tab) (hO : RawOK F X raw) (hF : F g = some fn) (hR : fn.rsh = some R) (hlen : args.length ≤ fn.ntmps)
  (hL : LoopOK F X 0 (retc fn.res R) LP (lps fn.body))
  (h : evc tab raw LP (retc fn.res R) (modeOf F) 0 fu fn.body (env0 fn args, []) (endK (retc fn.res R)) = some z) : Ans F X g args [] (R.enc z) [] := by
 have fin' : ∀ (r : Ex) (s : St), (r = .norm ∨ r = .ret) → Runs F X 0 fn.body (env0 fn args, []) r s → retc fn.res R s = some z → Ans F X g args [] (R.enc z) [] := by
  intro r s hr hrun hz
  obtain ⟨e1, H1⟩ := s
  obtain ⟨l, h1, h2⟩ := resultsc_spec hz
  simp only [List.nil_append] at h2
  split at h2 <;> try (cases h2; done)
  rename_i p hp
  obtain ⟨vs, H2⟩ := p
  have hlen1 : vs.length = 1 := by
   simp only [compact, Option.bind_eq_some_iff, Option.map_eq_some_iff, Prod.mk.injEq] at hp
   obtain ⟨vs', q1, _, _, rfl, _⟩ := hp
   simpa using (mapM_get q1).1
  match vs, hlen1 with
  | [v], _ =>
   simp only [] at h2
   obtain ⟨x, h3, h4⟩ := (toTc_spec R).1 _ _ _ h2
   injection h4 with h4; subst h4
   refine ans_of hF hlen (H := []) hrun hr h1 hp ?_
   simp only [fin, hR, List.length_nil, if_true, h3, Option.map_some]
 rcases evc_spec hT hO fu fn.body _ _ _ hL h with ⟨r, s', hr, h1, h2⟩ | ⟨s', h1, h2⟩
 ·cases r with
  | norm => exact fin' _ _ (.inl rfl) h1 h2
  | _ => cases h2
 ·exact fin' _ _ (.inr rfl) h1 h2
/-- a slice of whole numbers that the caller owns -/
def ownOut (k : IntKind) (l : List Int) : V × List Blk := (.sl 0 0 l.length none 1, [.cells false (.ints k l)])
def reto (rs : List Res) (k : IntKind) (s : St) : Option (List Int) :=
 resultsc s.1 s.2 (fun l =>
  match compact 0 [one1 l] s.2 with
  | some p =>
   match p.1 with
   | v :: _ =>
    match v with
    | .sl b off n cap sz =>
     if b = 0 ∧ off = 0 ∧ sz = 1 then
      match cap with
      | none =>
       match p.2 with
       | bl :: r =>
        match r with
        | [] =>
         match bl with
         | .cells ro c =>
          match ro with
          | false => match c with | .ints k' m => if k' = k then (bif n == m.length then some m else none) else none | _ => none
          | true => none
         | _ => none
        | _ => none
       | [] => none
      | some _ => none
     else none
    | _ => none
   | [] => none
  | none => none) rs []
theorem ans_o {g : Nat} {fn : Fun} {kk : IntKind} {raw : RawF (List Int)} {LP : LoopF (List Int)} {args : List V} {fu : Nat} {z : List Int} (hT : TabOK F X tab) (hO : RawOK F X raw) (hF : F g = some fn) (hR : fn.rsh = none) (hlen : args.length ≤ fn.ntmps)
  (hL : LoopOK F X 0 (reto fn.res kk) LP (lps fn.body))
  (h : evc tab raw LP (reto fn.res kk) (modeOf F) 0 fu fn.body (env0 fn args, []) (endK (reto fn.res kk)) = some z) : Ans F X g args [] (ownOut kk z).1 (ownOut kk z).2 := by
 have fin' : ∀ (r : Ex) (s : St), (r = .norm ∨ r = .ret) → Runs F X 0 fn.body (env0 fn args, []) r s → reto fn.res kk s = some z → Ans F X g args [] (ownOut kk z).1 (ownOut kk z).2 := by
  intro r s hr hrun hz
  obtain ⟨e1, H1⟩ := s
  obtain ⟨l, h1, h2⟩ := resultsc_spec hz
  simp only [List.nil_append] at h2
  split at h2 <;> try (cases h2; done)
  rename_i p hp
  obtain ⟨vs, H2⟩ := p
  have hlen1 : vs.length = 1 := by
   simp only [compact, Option.bind_eq_some_iff, Option.map_eq_some_iff, Prod.mk.injEq] at hp
   obtain ⟨vs', q1, _, _, rfl, _⟩ := hp
   simpa using (mapM_get q1).1
  match vs, hlen1 with
  | [v], _ =>
   simp only [] at h2
   split at h2 <;> try (cases h2; done)
   split at h2 <;> try (cases h2; done)
   rename_i hc
   obtain ⟨rfl, rfl, rfl⟩ := hc
   split at h2 <;> try (cases h2; done)
   split at h2 <;> try (cases h2; done)
   split at h2 <;> try (cases h2; done)
   split at h2 <;> try (cases h2; done)
   split at h2 <;> try (cases h2; done)
   split at h2 <;> try (cases h2; done)
   split at h2 <;> try (cases h2; done)
   rename_i hk
   subst hk
   obtain ⟨h3, h4⟩ := bif_some h2
   injection h4 with h4; subst h4
   have h5 := beq_iff_eq.1 h3
   subst h5
   exact ans_of hF hlen (H := []) hrun hr h1 hp (by simp only [fin, hR]; rfl)
 rcases evc_spec hT hO fu fn.body _ _ _ hL h with ⟨r, s', hr, h1, h2⟩ | ⟨s', h1, h2⟩
 ·cases r with
  | norm => exact fin' _ _ (.inl rfl) h1 h2
  | _ => cases h2
 ·exact fin' _ _ (.inr rfl) h1 h2
theorem loopOK_nil {LP : LoopF α} : LoopOK F X n0 ret LP [] := fun t b hm => by simp at hm
theorem loopOK_cons {LP : LoopF α} {l : List K} {u : K} {t : Trim} {b : K} (hu : u = .loop t b) (ho : ∀ s κ a, LP t.no s κ = some a → Out F X n0 ret u s κ a) (hl : LoopOK F X n0 ret LP l) : LoopOK F X n0 ret LP (u :: l) := by
 intro t' b' hm
 rcases List.mem_cons.1 hm with h | h
 ·rw [hu] at h
  injection h with h1 h2
  subst h1; subst h2
  rw [← hu]; exact ho
 ·exact hl t' b' h
/-- no call is made in the open -/
def noRaw : RawF α := fun _ _ _ _ => none
theorem noRaw_ok : RawOK F X (noRaw (α := α)) := fun g zs Hc κ a h => by cases h
/-- the fuel that a function's text needs -/
abbrev fuelC : Nat := 1000
end Go.Proofs.YtchoafdpckknmaaDoorE
