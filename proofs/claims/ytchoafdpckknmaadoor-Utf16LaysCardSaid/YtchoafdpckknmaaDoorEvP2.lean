/- The evaluator, handing on what it finds: data, calls, code. -/
import Derived.Test.YtchoafdpckknmaaDoorEvP1
namespace Go.Proofs.YtchoafdpckknmaaDoorE
open Go
set_option linter.unusedSimpArgs false
set_option linter.unusedVariables false
variable {α : Type} {H : List Blk} {FL : List Nat}

/-! ### data out of values -/
def rowsOf (s : Sh) (len : Nat) (l : List V) : Option (List s.T) := ofRows [] [] 90000 s len l
theorem ty_mono : ∀ n n' : Nat, n ≤ n' →
  (∀ (s : Sh) (l : List V) (r : s.T × List V), ofCells [] [] n s l = some r → ofCells H FL n' s l = some r) ∧
  (∀ (s : Sh) (len : Nat) (l : List V) (L : List s.T), ofRows [] [] n s len l = some L → ofRows H FL n' s len l = some L) ∧
  (∀ (s : Sh) (v : V) (L : List s.T), toL [] [] n s v = some L → toL H FL n' s v = some L) := by
 intro n
 induction n with
 | zero => intro n' _; exact ⟨fun s l r h => by simp [ofCells] at h, fun s len l L h => by simp [ofRows] at h, fun s v L h => by simp [toL] at h⟩
 | succ n ih =>
  intro n' hn
  obtain ⟨m, rfl⟩ : ∃ m, n' = m + 1 := ⟨n' - 1, by omega⟩
  obtain ⟨ihA, ihB, ihC⟩ := ih m (by omega)
  refine ⟨fun s l r h => ?_, fun s len l L h => ?_, fun s v L h => ?_⟩
  ·cases s with
   | sl s =>
    simp only [ofCells] at h ⊢
    split at h <;> try (cases h; done)
    simp only [Option.map_eq_some_iff] at h ⊢
    obtain ⟨x, h1, h2⟩ := h
    exact ⟨x, ihC _ _ _ h1, h2⟩
   | pr a b =>
    simp only [ofCells, Option.bind_eq_some_iff, Option.map_eq_some_iff] at h ⊢
    obtain ⟨p, h1, q, h2, h3⟩ := h
    exact ⟨p, ihA _ _ _ h1, q, ihA _ _ _ h2, h3⟩
   | st s => simp only [ofCells] at h ⊢; exact ihA s l r h
   | _ => exact h
  ·cases len with
   | zero => exact h
   | succ len =>
    simp only [ofRows, Option.bind_eq_some_iff, Option.map_eq_some_iff] at h ⊢
    obtain ⟨p, h1, q, h2, h3⟩ := h
    exact ⟨p, ihA _ _ _ h1, q, ihB _ _ _ _ h2, h3⟩
  ·cases v <;> first | exact h | (simp [toL] at h; done)

mutual
def ofCellsc (H : List Blk) (FL : List Nat) : Nat → (s : Sh) → List V → (s.T → List V → Option α) → Option α
 | 0, _, _, _ => none
 | n + 1, s, l, κ =>
  match s, κ with
  | .int k, κ => match l with | .int k' x :: r => if k = k' then κ x r else none | _ => none
  | .bool, κ => match l with | .bool x :: r => κ x r | _ => none
  | .str, κ => match l with | .str x :: r => κ x r | _ => none
  | .sl s, κ => match l with | v :: r => toLc H FL n s v fun x => κ x r | _ => none
  | .pr a b, κ => ofCellsc H FL n a l fun x r => ofCellsc H FL n b r fun y r => κ (x, y) r
  | .st s, κ => ofCellsc H FL n s l κ
  | .ar _, _ => none
  | .tu _, _ => none
def ofRowsc (H : List Blk) (FL : List Nat) : Nat → (s : Sh) → Nat → List V → (List s.T → Option α) → Option α
 | 0, _, _, _, _ => none
 | n + 1, s, len, l, κ =>
  match len with
  | 0 => match l with | [] => κ [] | _ => none
  | len + 1 => ofCellsc H FL n s l fun x r => ofRowsc H FL n s len r fun q => κ (x :: q)
def toLc (H : List Blk) (FL : List Nat) : Nat → (s : Sh) → V → (List s.T → Option α) → Option α
 | 0, _, _, _ => none
 | n + 1, s, v, κ =>
  match v with
  | .nils => κ []
  | .ez => κ []
  | .en => κ []
  | .tb s' l => match Sh.same s' s with | some h => κ (Sh.cast h l) | none => none
  | .sl b off len _ sz =>
   if !FL.contains b then none else
   if sz ≠ s.size then none else
   match H[b]? with
   | some (.cells _ c) =>
    bif decide (off + len * sz ≤ c.len) then
     match c with
     | .ints k l => match s, κ with | .int k', κ => if k' = k then κ ((l.drop off).take len) else none | _, _ => none
     | .imm l => if 90000 ≤ n then (match rowsOf s len ((l.drop off).take (len * sz)) with | some L => κ L | none => none) else none
     | .vals l => ofRowsc H FL n s len ((l.drop off).take (len * sz)) κ
    else none
   | _ => none
  | _ => none
end
theorem ty_spec : ∀ n : Nat,
  (∀ (s : Sh) (l : List V) (κ : s.T → List V → Option α) (a : α), ofCellsc H FL n s l κ = some a → ∃ x r, ofCells H FL n s l = some (x, r) ∧ κ x r = some a) ∧
  (∀ (s : Sh) (len : Nat) (l : List V) (κ : List s.T → Option α) (a : α), ofRowsc H FL n s len l κ = some a → ∃ L, ofRows H FL n s len l = some L ∧ κ L = some a) ∧
  (∀ (s : Sh) (v : V) (κ : List s.T → Option α) (a : α), toLc H FL n s v κ = some a → ∃ L, toL H FL n s v = some L ∧ κ L = some a) := by
 intro n
 induction n with
 | zero => exact ⟨fun s l κ a h => by simp [ofCellsc] at h, fun s len l κ a h => by simp [ofRowsc] at h, fun s v κ a h => by simp [toLc] at h⟩
 | succ n ih =>
  obtain ⟨ihA, ihB, ihC⟩ := ih
  refine ⟨fun s l κ a h => ?_, fun s len l κ a h => ?_, fun s v κ a h => ?_⟩
  ·cases s with
   | int k =>
    simp only [ofCellsc] at h
    split at h <;> try (cases h; done)
    split at h <;> try (cases h; done)
    rename_i hk
    exact ⟨_, _, by simp only [ofCells, if_pos hk], h⟩
   | bool =>
    simp only [ofCellsc] at h
    split at h <;> try (cases h; done)
    exact ⟨_, _, by simp only [ofCells], h⟩
   | str =>
    simp only [ofCellsc] at h
    split at h <;> try (cases h; done)
    exact ⟨_, _, by simp only [ofCells], h⟩
   | sl s =>
    simp only [ofCellsc] at h
    split at h <;> try (cases h; done)
    obtain ⟨L, h1, h2⟩ := ihC _ _ _ _ h
    exact ⟨_, _, by simp only [ofCells, h1, Option.map_some], h2⟩
   | pr p q =>
    simp only [ofCellsc] at h
    obtain ⟨x, r, h1, h2⟩ := ihA _ _ _ _ h
    obtain ⟨y, r', h3, h4⟩ := ihA _ _ _ _ h2
    exact ⟨_, _, by simp only [ofCells, h1, Option.bind_some, h3, Option.map_some], h4⟩
   | st s =>
    simp only [ofCellsc] at h
    obtain ⟨x, r, h1, h2⟩ := ihA _ _ _ _ h
    exact ⟨x, r, by simp only [ofCells]; exact h1, h2⟩
   | ar k => simp [ofCellsc] at h
   | tu s => simp [ofCellsc] at h
  ·cases len with
   | zero =>
    simp only [ofRowsc] at h
    split at h <;> try (cases h; done)
    exact ⟨_, by simp only [ofRows], h⟩
   | succ len =>
    simp only [ofRowsc] at h
    obtain ⟨x, r, h1, h2⟩ := ihA _ _ _ _ h
    obtain ⟨q, h3, h4⟩ := ihB _ _ _ _ _ h2
    exact ⟨_, by simp only [ofRows, h1, Option.bind_some, h3, Option.map_some], h4⟩
  ·cases v <;> simp only [toLc] at h <;> try (cases h; done)
   ·exact ⟨_, by simp only [toL], h⟩
   ·exact ⟨_, by simp only [toL], h⟩
   ·exact ⟨_, by simp only [toL], h⟩
   ·split at h <;> try (cases h; done)
    rename_i hf
    split at h <;> try (cases h; done)
    rename_i hz
    split at h <;> try (cases h; done)
    rename_i hb
    obtain ⟨h1, h2⟩ := bif_some h
    have hle := of_decide_eq_true h1
    split at h2
    ·cases s <;> simp only [] at h2 <;> try (cases h2; done)
     split at h2 <;> try (cases h2; done)
     rename_i hk
     exact ⟨_, by simp only [toL, if_neg hf, if_neg hz, hb, if_pos hle, if_pos hk], h2⟩
    ·split at h2 <;> try (cases h2; done)
     rename_i hn
     split at h2 <;> try (cases h2; done)
     rename_i L hL
     exact ⟨_, by simp only [toL, if_neg hf, if_neg hz, hb, if_pos hle]; exact (ty_mono _ _ hn).2.1 _ _ _ _ hL, h2⟩
    ·obtain ⟨L, h3, h4⟩ := ihB _ _ _ _ _ h2
     exact ⟨_, by simp only [toL, if_neg hf, if_neg hz, hb, if_pos hle]; exact h3, h4⟩
   ·split at h <;> try (cases h; done)
    rename_i hs hsm
    exact ⟨_, by simp only [toL, hsm, Option.map_some], h⟩
mutual
def toTc (H : List Blk) (FL : List Nat) : (s : Sh) → V → (s.T → Option α) → Option α
 | .int k, v, κ => match toInt k v with | some n => κ n | none => none
 | .bool, v, κ => match v with | .bool b => κ b | _ => none
 | .str, v, κ => match v with | .str b => κ b | _ => none
 | .sl s, v, κ => toLc H FL far s v κ
 | .ar k, v, κ => match v with | .agg (.ints k' l) => if k = k' then κ l else none | .agg c => (match C.toInts k c.toL with | some l => κ l | none => none) | _ => none
 | .st s, v, κ => match v with | .agg c => ofCellsc H FL far s c.toL fun x r => if r.isEmpty then κ x else none | _ => none
 | .tu s, v, κ => match v with | .tup l => toTsc H FL s l κ | _ => none
 | .pr _ _, _, _ => none
def toTsc (H : List Blk) (FL : List Nat) : (s : Sh) → List V → (s.T → Option α) → Option α
 | .pr a b, l, κ => match l with | v :: r => toTc H FL a v fun x => toTsc H FL b r fun y => κ (x, y) | _ => none
 | .int k, l, κ => match l with | [v] => (match toInt k v with | some n => κ n | none => none) | _ => none
 | .bool, l, κ => match l with | [.bool b] => κ b | _ => none
 | .str, l, κ => match l with | [.str b] => κ b | _ => none
 | .sl s, l, κ => match l with | [v] => toLc H FL far s v κ | _ => none
 | .ar k, l, κ => match l with | [.agg (.ints k' l)] => if k = k' then κ l else none | [.agg c] => (match C.toInts k c.toL with | some l => κ l | none => none) | _ => none
 | .st s, l, κ => match l with | [.agg c] => ofCellsc H FL far s c.toL fun x r => if r.isEmpty then κ x else none | _ => none
 | .tu _, _, _ => none
end
theorem toTc_spec : ∀ s : Sh, (∀ (v : V) (κ : s.T → Option α) (a : α), toTc H FL s v κ = some a → ∃ x, toT H FL s v = some x ∧ κ x = some a) ∧
  (∀ (l : List V) (κ : s.T → Option α) (a : α), toTsc H FL s l κ = some a → ∃ x, toTs H FL s l = some x ∧ κ x = some a) := by
 have cell : ∀ (s : Sh) (c : C) (κ : s.T → Option α) (a : α), (ofCellsc H FL far s c.toL fun x r => if r.isEmpty then κ x else none) = some a → ∃ x, ((ofCells H FL far s c.toL).bind fun p => if p.2.isEmpty then some p.1 else none) = some x ∧ κ x = some a := by
  intro s c κ a h
  obtain ⟨x, r, h1, h2⟩ := (ty_spec far).1 _ _ _ _ h
  split at h2 <;> try (cases h2; done)
  rename_i he
  exact ⟨x, by rw [h1]; simp only [Option.bind_some, if_pos he], h2⟩
 intro s
 induction s with
 | int k =>
  refine ⟨fun v κ a h => ?_, fun l κ a h => ?_⟩
  ·simp only [toTc] at h
   split at h <;> try (cases h; done)
   rename_i n hn; exact ⟨n, by simp only [toT, hn], h⟩
  ·simp only [toTsc] at h
   split at h <;> try (cases h; done)
   split at h <;> try (cases h; done)
   rename_i n hn; exact ⟨n, by simp only [toTs, hn], h⟩
 | bool =>
  refine ⟨fun v κ a h => ?_, fun l κ a h => ?_⟩
  ·simp only [toTc] at h
   split at h <;> try (cases h; done)
   exact ⟨_, by simp only [toT], h⟩
  ·simp only [toTsc] at h
   split at h <;> try (cases h; done)
   exact ⟨_, by simp only [toTs], h⟩
 | str =>
  refine ⟨fun v κ a h => ?_, fun l κ a h => ?_⟩
  ·simp only [toTc] at h
   split at h <;> try (cases h; done)
   exact ⟨_, by simp only [toT], h⟩
  ·simp only [toTsc] at h
   split at h <;> try (cases h; done)
   exact ⟨_, by simp only [toTs], h⟩
 | sl s _ =>
  refine ⟨fun v κ a h => ?_, fun l κ a h => ?_⟩
  ·obtain ⟨L, h1, h2⟩ := (ty_spec far).2.2 _ _ _ _ h
   exact ⟨L, h1, h2⟩
  ·simp only [toTsc] at h
   split at h <;> try (cases h; done)
   obtain ⟨L, h1, h2⟩ := (ty_spec far).2.2 _ _ _ _ h
   exact ⟨L, h1, h2⟩
 | ar k =>
  refine ⟨fun v κ a h => ?_, fun l κ a h => ?_⟩
  ·simp only [toTc] at h
   split at h <;> try (cases h; done)
   ·split at h <;> try (cases h; done)
    rename_i hk; exact ⟨_, by simp only [toT, if_pos hk], h⟩
   ·rename_i c hc
    split at h <;> try (cases h; done)
    rename_i l hl
    refine ⟨l, ?_, h⟩
    cases c
    ·exact absurd rfl (hc _ _)
    ·exact hl
    ·exact hl
  ·simp only [toTsc] at h
   split at h <;> try (cases h; done)
   ·split at h <;> try (cases h; done)
    rename_i hk; exact ⟨_, by simp only [toTs, if_pos hk], h⟩
   ·rename_i c hc
    split at h <;> try (cases h; done)
    rename_i l hl
    refine ⟨l, ?_, h⟩
    cases c
    ·exact absurd rfl (hc _ _)
    ·exact hl
    ·exact hl
 | st s _ =>
  refine ⟨fun v κ a h => ?_, fun l κ a h => ?_⟩
  ·simp only [toTc] at h
   split at h <;> try (cases h; done)
   exact cell s _ κ a h
  ·simp only [toTsc] at h
   split at h <;> try (cases h; done)
   exact cell s _ κ a h
 | pr a b iha ihb =>
  refine ⟨fun v κ a h => by simp [toTc] at h, fun l κ a h => ?_⟩
  simp only [toTsc] at h
  split at h <;> try (cases h; done)
  obtain ⟨x, h1, h2⟩ := iha.1 _ _ _ h
  obtain ⟨y, h3, h4⟩ := ihb.2 _ _ _ h2
  exact ⟨_, by simp only [toTs, h1, Option.bind_some, h3, Option.map_some], h4⟩
 | tu s ih =>
  refine ⟨fun v κ a h => ?_, fun l κ a h => by simp [toTsc] at h⟩
  simp only [toTc] at h
  split at h <;> try (cases h; done)
  obtain ⟨x, h1, h2⟩ := ih.2 _ _ _ h
  exact ⟨x, by simp only [toT]; exact h1, h2⟩
@[reducible] def Ts : List Sh → Type
 | [] => Unit
 | s :: S => s.T × Ts S
def encL : (S : List Sh) → Ts S → List V
 | [], _ => []
 | s :: S, v => s.enc v.1 :: encL S v.2
def typedc (H : List Blk) (FL : List Nat) : (S : List Sh) → List V → (Ts S → Option α) → Option α
 | [], l, κ => match l with | [] => κ () | _ => none
 | s :: S, l, κ => match l with | v :: r => if !s.plain then none else toTc H FL s v fun x => typedc H FL S r fun y => κ (x, y) | _ => none
theorem typedc_spec : ∀ {S : List Sh} {l : List V} {κ : Ts S → Option α} {a : α}, typedc H FL S l κ = some a → ∃ v, typed H FL S l = some (encL S v) ∧ κ v = some a
 | [], l, κ, a, h => by
  simp only [typedc] at h
  split at h <;> try (cases h; done)
  exact ⟨(), rfl, h⟩
 | s :: S, l, κ, a, h => by
  simp only [typedc] at h
  split at h <;> try (cases h; done)
  split at h <;> try (cases h; done)
  rename_i hp
  obtain ⟨x, h1, h2⟩ := (toTc_spec s).1 _ _ _ h
  obtain ⟨y, h3, h4⟩ := typedc_spec h2
  exact ⟨(x, y), by simp only [typed, if_neg hp, h1, Option.bind_some, h3, Option.map_some, encL], h4⟩

/-! ### calls -/
/-- what is known of a function that is handed data alone -/
structure Ent where
 S : List Sh
 R : Type
 f : Ts S → Option R
 out : R → V × List Blk
abbrev RawF (α : Type) := Nat → List V → List Blk → (V → List Blk → Option α) → Option α
abbrev LoopF (α : Type) := Nat → St → (Ex → St → Option α) → Option α
def rawc (raw : RawF α) (md : Nat → Mode) (g : Nat) (all : List V) (H : List Blk) (κ : V → List Blk → Bool → Option α) : Option α :=
 match (md g).ash with
 | some _ => none
 | none =>
  let keep := if (md g).own then all else if (md g).rd then [] else all.filter byId
  let L := reach H far keep []
  let FL := (reach H far all []).filter fun i => !L.contains i
  match ((if (md g).own then some all else all.mapM (lend H FL deep)).bind fun ys => ys.mapM (ren (idx L) deep)) with
  | none => none
  | some zs =>
   match (L.mapM fun i => (H[i]?).bind (renB (idx L) deep)) with
   | none => none
   | some Hc =>
    raw g zs Hc fun r Hc' =>
    if Hc'.length < L.length then none else
    match ren (fun j => if j < L.length then L[j]? else some (H.length + (j - L.length))) deep r with
    | none => none
    | some r' =>
     match Hc'.mapM (renB (fun j => if j < L.length then L[j]? else some (H.length + (j - L.length))) deep) with
     | none => none
     | some Hb =>
      if L.isEmpty && !(hasRs deep r || Hc'.any hasRsB) then κ r' (H ++ Hb) true
      else κ r' (putBack (if hasRs deep r || Hc'.any hasRsB then freeze FL H else H) (L.zip (Hb.take L.length)) ++ Hb.drop L.length) false
def callc (tab : Nat → Option Ent) (raw : RawF α) (md : Nat → Mode) (f : V) (xs : List V) (H : List Blk) (κ : V → List Blk → Bool → Option α) : Option α :=
 match f with
 | .fn g caps =>
  match tab g with
  | some en =>
   typedc H (reach H far (xs ++ caps) []) en.S (xs ++ caps) fun v =>
   match en.f v with
   | some r =>
    match ren (fun j => some (H.length + j)) deep (en.out r).1 with
    | some r' =>
     match (en.out r).2.mapM (renB (fun j => some (H.length + j)) deep) with
     | some Hb =>
      if (hasRs deep (en.out r).1 && !(reach H far (xs ++ caps) []).isEmpty) || (en.out r).2.any hasRsB then κ r' (freeze (reach H far (xs ++ caps) []) H ++ Hb) false
      else κ r' (H ++ Hb) true
     | none => none
    | none => none
   | none => none
  | none => rawc raw md g (xs ++ caps) H κ
 | _ => none
variable {F : Nat → Option Fun} {X : Nat → List V → Option (V × List Blk)}
def EntOK (F : Nat → Option Fun) (X : Nat → List V → Option (V × List Blk)) (g : Nat) (en : Ent) : Prop :=
 (modeOf F g).ash = some en.S ∧ ∀ v r, en.f v = some r → Ans F X g (encL en.S v) [] (en.out r).1 (en.out r).2
def TabOK (F : Nat → Option Fun) (X : Nat → List V → Option (V × List Blk)) (tab : Nat → Option Ent) : Prop := ∀ g en, tab g = some en → EntOK F X g en
def RawOK (F : Nat → Option Fun) (X : Nat → List V → Option (V × List Blk)) (raw : RawF α) : Prop :=
 ∀ g zs Hc κ (a : α), raw g zs Hc κ = some a → ∃ r Hc', Ans F X g zs Hc r Hc' ∧ κ r Hc' = some a
theorem callc_spec {tab : Nat → Option Ent} {raw : RawF α} (hT : TabOK F X tab) (hO : RawOK F X raw) {f : V} {xs : List V} {κ : V → List Blk → Bool → Option α} {a : α} (h : callc tab raw (modeOf F) f xs H κ = some a) :
  ∃ n v H' q, callEv (evF F X n) (modeOf F) f xs H = some (v, H', q) ∧ κ v H' q = some a := by
 cases f <;> simp only [callc] at h <;> try (cases h; done)
 rename_i g caps
 split at h
 ·rename_i en hen
  obtain ⟨h1, h3⟩ := hT g en hen
  obtain ⟨v, h4, h5⟩ := typedc_spec h
  split at h5 <;> try (cases h5; done)
  rename_i r hr
  obtain ⟨n, hn⟩ := h3 v r hr
  split at h5 <;> try (cases h5; done)
  rename_i r' hr'
  split at h5 <;> try (cases h5; done)
  rename_i Hb hHb
  refine ⟨n, ?_⟩
  simp only [callEv, h1, callT, h4, Option.bind_some, hn, hr', hHb, Option.map_some]
  split at h5
  ·rename_i hq; exact ⟨_, _, _, by rw [if_pos hq], h5⟩
  ·rename_i hq; exact ⟨_, _, _, by rw [if_neg hq], h5⟩
 ·simp only [rawc] at h
  split at h <;> try (cases h; done)
  rename_i hash
  simp only [callEv, hash]
  generalize (if (modeOf F g).own = true then xs ++ caps else if (modeOf F g).rd = true then [] else List.filter byId (xs ++ caps)) = kp at h ⊢
  generalize reach H far kp [] = L at h ⊢
  generalize (List.filter (fun i => !L.contains i) (reach H far (xs ++ caps) [])) = FL at h ⊢
  generalize (if (modeOf F g).own = true then some (xs ++ caps) else List.mapM (lend H FL deep) (xs ++ caps)) = ly at h ⊢
  split at h <;> try (cases h; done)
  rename_i zs hz
  split at h <;> try (cases h; done)
  rename_i Hc hHc
  obtain ⟨r, Hc', ⟨n, hn⟩, h1⟩ := hO _ _ _ _ _ h
  split at h1 <;> try (cases h1; done)
  rename_i hlen
  split at h1 <;> try (cases h1; done)
  rename_i r' hr'
  split at h1 <;> try (cases h1; done)
  rename_i Hb hHb
  refine ⟨n, ?_⟩
  simp only [hz, hHc, Option.bind_some, hn, if_neg hlen, hr', hHb, Option.map_some]
  split at h1
  ·rename_i hq; exact ⟨_, _, _, by rw [if_pos hq], h1⟩
  ·rename_i hq; exact ⟨_, _, _, by rw [if_neg hq], h1⟩

/-! ### stretches of operations -/
/-- the first entry of a slot, set anew -/
def setF : Env → Nat → V → Env
 | [], _, _ => []
 | (u, x) :: r, t, v => if u = t then (u, v) :: r else (u, x) :: setF r t v
theorem setF_same : ∀ {e : Env} {t : Nat}, setF e t (look e t) = e
 | [], t => rfl
 | (u, x) :: r, t => by
  simp only [setF, look]
  split
  ·rfl
  ·rw [setF_same]
def apzc (sz bytes : Nat) (z : C) (p q : V) (e : Env) (H : List Blk) (κ : V → List Blk → Bool → Option α) : Option α :=
 match q with
 | .int _ k =>
  bif decide (0 ≤ k) && (decide (k * bytes ≤ 2 ^ 40) && decide (k ≤ 2 ^ 40)) then
   match p with
   | .nils => κ (.sl H.length 0 k.toNat none sz) (H ++ [.cells false (z.sub 0 0)]) true
   | .ez => κ (.sl H.length 0 k.toNat none sz) (H ++ [.cells false (z.sub 0 0)]) true
   | p => match C.rep k.toNat z with | some d => opc (.app sz bytes (.c p) (.c (.rs k.toNat d))) e H κ | none => none
  else none
 | _ => none
theorem apzc_spec {sz bytes : Nat} {z : C} {p q : V} {e : Env} {H : List Blk} {κ : V → List Blk → Bool → Option α} {a : α} (h : apzc sz bytes z p q e H κ = some a) : ∃ v H' b, apzN sz bytes z p q e H = some (v, H', b) ∧ κ v H' b = some a := by
 unfold apzc at h
 split at h <;> try (cases h; done)
 rename_i k
 obtain ⟨h1, h2⟩ := bif_some h
 simp only [Bool.and_eq_true, decide_eq_true_eq] at h1
 unfold apzN
 simp only [if_pos h1]
 split at h2
 ·exact ⟨_, _, _, rfl, h2⟩
 ·exact ⟨_, _, _, rfl, h2⟩
 ·rename_i hp1 hp2
  split at h2 <;> try (cases h2; done)
  rename_i d hd
  obtain ⟨v, H', b, h3, h4⟩ := opc_spec h2
  refine ⟨v, H', b, ?_, h4⟩
  split
  ·rename_i hh; exact absurd rfl hp1
  ·rename_i hh; exact absurd rfl hp2
  ·rw [hd]; exact h3
def evoc (tab : Nat → Option Ent) (raw : RawF α) (md : Nat → Mode) (o : O) (e : Env) (H : List Blk) (κ : V → List Blk → Bool → Option α) : Option α :=
 match o with
 | .call f xs => callc tab raw md (f.ev e) (xs.map (R.ev e)) H κ
 | .apz sz bytes z x n => apzc sz bytes z (x.ev e) (n.ev e) e H κ
 | o => opc o e H κ
def evOpsc (tab : Nat → Option Ent) (raw : RawF α) (md : Nat → Mode) (bar : Nat → Bool) (κ : Env → List Blk → Option α) : Nat → List Op → Env → List Blk → Option α
 | _, [], e, H => κ e H
 | i, o :: os, e, H =>
  match o.guard with
  | none => evoc tab raw md o.o e H fun v H' q => if q || bar i then evOpsc tab raw md bar κ (i + 1) os (push o.dst v e) H' else none
  | some p =>
   match look e p.1 with
   | .bool t =>
    match t with
    | true =>
     match p.2 with
     | true => evoc tab raw md o.o (setF e p.1 (.bool true)) H fun v H' q => if q || bar i then evOpsc tab raw md bar κ (i + 1) os (push o.dst v (setF e p.1 (.bool true))) H' else none
     | false => evOpsc tab raw md bar κ (i + 1) os (push o.dst (.tup []) (setF e p.1 (.bool true))) H
    | false =>
     match p.2 with
     | false => evoc tab raw md o.o (setF e p.1 (.bool false)) H fun v H' q => if q || bar i then evOpsc tab raw md bar κ (i + 1) os (push o.dst v (setF e p.1 (.bool false))) H' else none
     | true => evOpsc tab raw md bar κ (i + 1) os (push o.dst (.tup []) (setF e p.1 (.bool false))) H
   | .tup l => match l with | [] => evOpsc tab raw md bar κ (i + 1) os (push o.dst (.tup []) e) H | _ => none
   | _ => none
variable {tab : Nat → Option Ent} {raw : RawF α}
theorem evoc_spec (hT : TabOK F X tab) (hO : RawOK F X raw) {o : O} {e : Env} {κ : V → List Blk → Bool → Option α} {a : α} (h : evoc tab raw (modeOf F) o e H κ = some a) :
  ∃ n v H' q, evOp (evF F X n) (modeOf F) o e H = some (v, H', q) ∧ κ v H' q = some a := by
 have other : opc o e H κ = some a → (∀ n, evOp (evF F X n) (modeOf F) o e H = evN o e H) → ∃ n v H' q, evOp (evF F X n) (modeOf F) o e H = some (v, H', q) ∧ κ v H' q = some a := by
  intro h1 h2
  obtain ⟨v, H', q, h3, h4⟩ := opc_spec h1
  exact ⟨0, v, H', q, by rw [h2]; exact h3, h4⟩
 cases o
 case call f xs => exact callc_spec hT hO h
 case apz sz bytes z x n =>
  obtain ⟨v, H', q, h1, h2⟩ := apzc_spec h
  exact ⟨0, v, H', q, h1, h2⟩
 all_goals exact other h (fun _ => rfl)
theorem evOpsc_spec (hT : TabOK F X tab) (hO : RawOK F X raw) {bar : Nat → Bool} {κ : Env → List Blk → Option α} {a : α} : ∀ {ops : List Op} {i : Nat} {e : Env} {H : List Blk}, evOpsc tab raw (modeOf F) bar κ i ops e H = some a →
  ∃ n e' H', evOps (evF F X n) (modeOf F) bar i ops e H = some (e', H') ∧ κ e' H' = some a
 | [], i, e, H, h => ⟨0, e, H, rfl, h⟩
 | o :: os, i, e, H, h => by
  have run : wants e o.guard = some true → (evoc tab raw (modeOf F) o.o e H fun v H' q => if q || bar i then evOpsc tab raw (modeOf F) bar κ (i + 1) os (push o.dst v e) H' else none) = some a → ∃ n e' H', evOps (evF F X n) (modeOf F) bar i (o :: os) e H = some (e', H') ∧ κ e' H' = some a := by
   intro hw h1
   obtain ⟨n, v, H', q, h2, h3⟩ := evoc_spec hT hO h1
   split at h3 <;> try (cases h3; done)
   rename_i hq
   obtain ⟨n2, e2, H2, h4, h5⟩ := evOpsc_spec hT hO h3
   refine ⟨n + n2, e2, H2, ?_, h5⟩
   simp only [evOps, hw, evOp_mono (evF_mono (Nat.le_add_right n n2)) h2, if_pos hq]
   exact evOps_mono (evF_mono (Nat.le_add_left n2 n)) h4
  have idle : wants e o.guard = some false → evOpsc tab raw (modeOf F) bar κ (i + 1) os (push o.dst (.tup []) e) H = some a → ∃ n e' H', evOps (evF F X n) (modeOf F) bar i (o :: os) e H = some (e', H') ∧ κ e' H' = some a := by
   intro hw h1
   obtain ⟨n2, e2, H2, h4, h5⟩ := evOpsc_spec hT hO h1
   exact ⟨n2, e2, H2, by simp only [evOps, hw]; exact h4, h5⟩
  simp only [evOpsc] at h
  split at h
  ·rename_i hg; exact run (by rw [hg]; rfl) h
  ·rename_i p hg
   obtain ⟨g, want⟩ := p
   split at h
   ·rename_i t ht
    simp only [] at ht
    have hs : ∀ b, look e g = .bool b → setF e g (.bool b) = e := fun b hb => by rw [← hb]; exact setF_same
    split at h
    ·rw [hs true ht] at h
     split at h
     ·rename_i hw
      simp only [] at hw
      exact run (by rw [hg]; simp only [wants, ht, hw]; rfl) h
     ·rename_i hw
      simp only [] at hw
      exact idle (by rw [hg]; simp only [wants, ht, hw]; rfl) h
    ·rw [hs false ht] at h
     split at h
     ·rename_i hw
      simp only [] at hw
      exact run (by rw [hg]; simp only [wants, ht, hw]; rfl) h
     ·rename_i hw
      simp only [] at hw
      exact idle (by rw [hg]; simp only [wants, ht, hw]; rfl) h
   ·rename_i l hl
    split at h <;> try (cases h; done)
    exact idle (by rw [hg]; simp only [wants, hl]) h
   ·cases h

/-! ### code -/
def ty0c (t : Nat) (S : Sh) (s : St) (κ : St → Option α) : Option α :=
 toTc s.2 (reach s.2 far [look s.1 t] []) S (look s.1 t) fun r => κ (setE s.1 t (S.enc r), freeze (reach s.2 far [look s.1 t] []) s.2)
/-- a box's cell as typed data -/
def tyBc (b o : Nat) (S' : Sh) (s : St) (κ : St → Option α) : Option α :=
 match s.2[b]? with
 | some (.cells ro c) =>
  match ro with
  | false =>
   match asV c with
   | some l =>
    match l[o]? with
    | some v =>
     match (reach s.2 far [v] []).contains b with
     | false => toTc s.2 (reach s.2 far [v] []) (.sl S') v fun r => κ (s.1, (freeze (reach s.2 far [v] []) s.2).set b (.cells false (.vals (l.set o (.tb S' r)))))
     | true => none
    | none => none
   | none => none
  | true => none
 | _ => none
theorem tyBc_spec {b o : Nat} {S' : Sh} {s : St} {κ : St → Option α} {a : α} (h : tyBc b o S' s κ = some a) : ∃ s', tyB b o S' s = some s' ∧ κ s' = some a := by
 unfold tyBc at h
 split at h <;> try (cases h; done)
 rename_i ro c hb
 split at h <;> try (cases h; done)
 split at h <;> try (cases h; done)
 rename_i l hl
 split at h <;> try (cases h; done)
 rename_i v hlv
 split at h <;> try (cases h; done)
 rename_i hnc
 obtain ⟨x, h1, h2⟩ := (toTc_spec (.sl S')).1 _ _ _ h
 refine ⟨_, ?_, h2⟩
 simp only [tyB, hb, hl, Option.bind_some, hlv, hnc, Bool.false_eq_true, if_false]
 have h1' : toL s.2 (reach s.2 far [v] []) far S' v = some x := h1
 rw [h1']; rfl
def tyPc (b : Nat) : Sh → Nat → St → (St → Option α) → Option α
 | .sl S, o, s, κ => tyBc b o S s κ
 | .pr x y, o, s, κ => tyPc b x o s fun s => tyPc b y (o + x.size) s κ
 | _, _, s, κ => κ s
theorem tyPc_spec {b : Nat} : ∀ {S : Sh} {o : Nat} {s : St} {κ : St → Option α} {a : α}, tyPc b S o s κ = some a → ∃ s', tyP b S o s = some s' ∧ κ s' = some a := by
 intro S
 induction S with
 | sl S _ => intro o s κ a h; exact tyBc_spec h
 | pr x y ihx ihy =>
  intro o s κ a h
  simp only [tyPc] at h
  obtain ⟨s1, h1, h2⟩ := ihx h
  obtain ⟨s2, h3, h4⟩ := ihy h2
  exact ⟨s2, by simp only [tyP, h1, Option.bind_some, h3], h4⟩
 | _ => intro o s κ a h; exact ⟨s, rfl, h⟩
def tyNc (b sz : Nat) (S : Sh) : Nat → Nat → St → (St → Option α) → Option α
 | 0, _, s, κ => κ s
 | n + 1, o, s, κ => tyPc b S o s fun s => tyNc b sz S n (o + sz) s κ
theorem tyNc_spec {b sz : Nat} {S : Sh} : ∀ {n o : Nat} {s : St} {κ : St → Option α} {a : α}, tyNc b sz S n o s κ = some a → ∃ s', tyN b sz S n o s = some s' ∧ κ s' = some a
 | 0, o, s, κ, a, h => ⟨s, rfl, h⟩
 | n + 1, o, s, κ, a, h => by
  simp only [tyNc] at h
  obtain ⟨s1, h1, h2⟩ := tyPc_spec h
  obtain ⟨s2, h3, h4⟩ := tyNc_spec h2
  exact ⟨s2, by simp only [tyN, h1, Option.bind_some, h3], h4⟩
def ty1c (t : Nat) (S : Sh) (s : St) (κ : St → Option α) : Option α :=
 match look s.1 t with
 | .ptr b o =>
  match S with
  | .sl S' => tyBc b o S' s κ
  | .st S' => tyPc b S' o s κ
  | _ => match tyR t b o s with | some s' => κ s' | none => none
 | .sl b o len _ sz =>
  match S with
  | .st S' => tyNc b sz S' len o s κ
  | _ => ty0c t S s κ
 | .nilp => κ s
 | _ => ty0c t S s κ
theorem ty1_sl {t b o : Nat} {S : Sh} {s : St} (h : look s.1 t = .ptr b o) : ty1 t (.sl S) s = tyB b o S s := by unfold ty1; rw [h]
theorem ty1_st {t b o : Nat} {S : Sh} {s : St} (h : look s.1 t = .ptr b o) : ty1 t (.st S) s = tyP b S o s := by unfold ty1; rw [h]
theorem ty1_rows {t b o len sz : Nat} {cap : Option Nat} {S : Sh} {s : St} (h : look s.1 t = .sl b o len cap sz) : ty1 t (.st S) s = tyN b sz S len o s := by unfold ty1; rw [h]
theorem ty1_slice {t b o len sz : Nat} {cap : Option Nat} {S : Sh} {s : St} (h : look s.1 t = .sl b o len cap sz) (hS : ∀ S', S = .st S' → False) : ty1 t S s = ty0 t S s := by
 unfold ty1
 rw [h]
 cases S <;> first | rfl | exact (hS _ rfl).elim
theorem ty1_box {t b o : Nat} {S : Sh} {s : St} (h : look s.1 t = .ptr b o) (hS : ∀ S', S = .sl S' → False) (hS2 : ∀ S', S = .st S' → False) : ty1 t S s = tyR t b o s := by
 unfold ty1
 rw [h]
 cases S <;> first | rfl | exact (hS _ rfl).elim | exact (hS2 _ rfl).elim
theorem ty1_other {t : Nat} {S : Sh} {s : St} (h : ∀ b o, look s.1 t = .ptr b o → False) (h2 : ∀ b o len cap sz, look s.1 t = .sl b o len cap sz → False) (h3 : look s.1 t = .nilp → False) : ty1 t S s = ty0 t S s := by
 unfold ty1
 split
 ·rename_i b o hv; exact (h b o hv).elim
 ·rename_i b o len cap sz hv; exact (h2 b o len cap sz hv).elim
 ·rename_i hv; exact (h3 hv).elim
 ·rfl
theorem ty1_nil {t : Nat} {S : Sh} {s : St} (h : look s.1 t = .nilp) : ty1 t S s = some s := by unfold ty1; rw [h]
theorem ty0c_spec {t : Nat} {S : Sh} {s : St} {κ : St → Option α} {a : α} (h : ty0c t S s κ = some a) : ∃ s', ty0 t S s = some s' ∧ κ s' = some a := by
 obtain ⟨x, h1, h2⟩ := (toTc_spec S).1 _ _ _ h
 exact ⟨_, by simp only [ty0, h1, Option.map_some], h2⟩
theorem ty1c_spec {t : Nat} {S : Sh} {s : St} {κ : St → Option α} {a : α} (h : ty1c t S s κ = some a) : ∃ s', ty1 t S s = some s' ∧ κ s' = some a := by
 unfold ty1c at h
 split at h
 ·rename_i b o hv
  split at h
  ·rw [ty1_sl hv]; exact tyBc_spec h
  ·rw [ty1_st hv]; exact tyPc_spec h
  ·rename_i hne hne2
   split at h <;> try (cases h; done)
   rename_i s' hs'
   exact ⟨s', by rw [ty1_box hv hne hne2]; exact hs', h⟩
 ·rename_i b o len cap sz hv
  split at h
  ·rw [ty1_rows hv]; exact tyNc_spec h
  ·rename_i hne
   rw [ty1_slice hv hne]; exact ty0c_spec h
 ·rename_i hv
  exact ⟨s, ty1_nil hv, h⟩
 ·rename_i hne hne2 hne3
  rw [ty1_other hne hne2 hne3]; exact ty0c_spec h
def tysc (κ : St → Option α) : List (Nat × Sh) → St → Option α
 | [], s => κ s
 | p :: l, s => ty1c p.1 p.2 s (tysc κ l)
def gr1c (t : Nat) (c : C) (sz : Nat) (s : St) (κ : St → Option α) : Option α :=
 match look s.1 t with
 | .sl b off len cap sz' =>
  match cap with
  | none => κ s
  | some _ =>
   match s.2[b]? with
   | some (.cells ro c) =>
    match ro with
    | false => if off = 0 ∧ sz' = sz then (bif decide (len * sz ≤ c.len) then κ (setE s.1 t (.sl b 0 len none sz), s.2.set b (.cells false (c.sub 0 (len * sz)))) else κ s) else κ s
    | true => κ s
   | _ => κ s
 | _ => κ (gr1 t c sz s)
theorem gr1c_is {t : Nat} {c : C} {sz : Nat} {s : St} {κ : St → Option α} : gr1c t c sz s κ = κ (gr1 t c sz s) := by
 unfold gr1c
 split
 ·rename_i b off len cap sz' hv
  unfold gr1
  rw [hv]
  simp only []
  cases cap with
  | none => rfl
  | some k =>
   simp only []
   cases hb : s.2[b]? with
   | none => rfl
   | some bl =>
    cases bl with
    | cells ro c' =>
     cases ro with
     | true => rfl
     | false =>
      simp only []
      by_cases h1 : off = 0 ∧ sz' = sz
      ·rw [if_pos h1]
       by_cases h2 : len * sz ≤ c'.len
       ·rw [decide_eq_true h2, cond_true, if_pos ⟨h1.1, h1.2, h2⟩]
       ·rw [decide_eq_false h2, cond_false, if_neg (fun g => h2 g.2.2)]
      ·rw [if_neg h1, if_neg (fun g => h1 ⟨g.1, g.2.1⟩)]
    | iter => rfl
    | dead => rfl
 ·rfl
def grsc (κ : St → Option α) : List (Nat × C × Nat) → St → Option α
 | [], s => κ s
 | p :: l, s => gr1c p.1 p.2.1 p.2.2 s (grsc κ l)
theorem grsc_is {κ : St → Option α} : ∀ {l : List (Nat × C × Nat)} {s : St}, grsc κ l s = κ (grs l s)
 | [], s => rfl
 | p :: l, s => by rw [grsc, gr1c_is, grsc_is]; rfl
def trimc (n0 : Nat) (t : Trim) (s : St) (κ : St → Option α) : Option α :=
 tysc (fun s => grsc (fun s => match t.all with | true => κ s | false => match atHead n0 t.keep s with | some s => κ s | none => none) t.gr s) t.ty s
theorem tysc_spec {κ : St → Option α} {a : α} : ∀ {l : List (Nat × Sh)} {s : St}, tysc κ l s = some a → ∃ s', tys l s = some s' ∧ κ s' = some a
 | [], s, h => ⟨s, rfl, h⟩
 | p :: l, s, h => by
  simp only [tysc] at h
  obtain ⟨x, h1, h2⟩ := ty1c_spec h
  obtain ⟨s', h3, h4⟩ := tysc_spec h2
  exact ⟨s', by simp only [tys, h1, Option.bind_some]; exact h3, h4⟩
theorem trimc_spec {n0 : Nat} {t : Trim} {s : St} {κ : St → Option α} {a : α} (h : trimc n0 t s κ = some a) : ∃ s', trim n0 t s = some s' ∧ κ s' = some a := by
 obtain ⟨s1, h1, h2⟩ := tysc_spec h
 rw [grsc_is] at h2
 split at h2
 ·rename_i ha
  exact ⟨_, by simp only [trim, h1, Option.bind_some, ha, if_true], h2⟩
 ·rename_i ha
  split at h2 <;> try (cases h2; done)
  rename_i s2 hs2
  exact ⟨_, by simp only [trim, h1, Option.bind_some, ha, Bool.false_eq_true, if_false, hs2], h2⟩
def evc (tab : Nat → Option Ent) (raw : RawF α) (LP : LoopF α) (ret : St → Option α) (md : Nat → Mode) (n0 : Nat) : Nat → K → St → (Ex → St → Option α) → Option α
 | 0, _, _, _ => none
 | n + 1, k, s, κ =>
  match k with
  | .skip => κ .norm s
  | .label _ => κ .norm s
  | .region ops draw => evOpsc tab raw md (if draw then barrier ops (ancs ops []) else fun _ => true) (fun e H => κ .norm (commit s.1 e, H)) 0 ops s.1 s.2
  | .seq a b => evc tab raw LP ret md n0 n a s fun r s1 => match r with | .norm => evc tab raw LP ret md n0 n b s1 κ | r => κ r s1
  | .cond c x y => match c.ev s.1 with | .bool t => (match t with | true => evc tab raw LP ret md n0 n x s κ | false => evc tab raw LP ret md n0 n y s κ) | _ => none
  | .block id b => evc tab raw LP ret md n0 n b s fun r s1 => match r with | .exit id' => if id' = id then κ .norm s1 else κ (.exit id') s1 | r => κ r s1
  | .loop t b => LP t.no s κ
  | .pre t b => trimc n0 t s fun s1 => evc tab raw LP ret md n0 n b s1 κ
  | .exit id => κ (.exit id) s
  | .goto l => κ (.goto l) s
  | .ret => ret s
  | .scope b => evc tab raw LP ret md n0 n (.rsm b b) s κ
  | .rsm c b => evc tab raw LP ret md n0 n c s fun r s1 =>
    match r with
    | .goto l => (match findK b l with | some rest => evc tab raw LP ret md n0 n (.rsm rest b) s1 κ | none => κ (.goto l) s1)
    | r => κ r s1
  | .bad => none
/-- the loops that are met first -/
def lps : K → List K
 | .seq a b => lps a ++ lps b
 | .cond _ a b => lps a ++ lps b
 | .block _ b => lps b
 | .loop t b => [.loop t b]
 | .pre _ b => lps b
 | .scope b => lps b
 | .rsm c b => lps c ++ lps b
 | _ => []
theorem lps_find {l : Nat} : ∀ {b rest : K}, findK b l = some rest → ∀ u, u ∈ lps rest → u ∈ lps b := by
 intro b
 induction b with
 | seq x y ihx ihy =>
  intro rest h u hu
  simp only [findK] at h
  split at h
  ·rename_i r hr
   injection h with h; subst h
   simp only [lps, List.mem_append] at hu ⊢
   exact hu.imp (ihx hr u) id
  ·simp only [lps, List.mem_append]; exact .inr (ihy h u hu)
 | label l' =>
  intro rest h u hu
  simp only [findK] at h
  split at h <;> try (cases h; done)
  injection h with h; subst h; simp [lps] at hu
 | pre t x ih => intro rest h u hu; exact ih h u hu
 | _ => intro rest h; simp [findK] at h
variable {LP : LoopF α} {ret : St → Option α} {n0 : Nat}
def Out (F : Nat → Option Fun) (X : Nat → List V → Option (V × List Blk)) (n0 : Nat) (ret : St → Option α) (k : K) (s : St) (κ : Ex → St → Option α) (a : α) : Prop :=
 (∃ r s', r ≠ .ret ∧ Runs F X n0 k s r s' ∧ κ r s' = some a) ∨ ∃ s', Runs F X n0 k s .ret s' ∧ ret s' = some a
def LoopOK (F : Nat → Option Fun) (X : Nat → List V → Option (V × List Blk)) (n0 : Nat) (ret : St → Option α) (LP : LoopF α) (l : List K) : Prop :=
 ∀ t b, K.loop t b ∈ l → ∀ s κ a, LP t.no s κ = some a → Out F X n0 ret (.loop t b) s κ a
theorem evc_spec (hT : TabOK F X tab) (hO : RawOK F X raw) : ∀ (n : Nat) (k : K) (s : St) (κ : Ex → St → Option α) (a : α), LoopOK F X n0 ret LP (lps k) →
  evc tab raw LP ret (modeOf F) n0 n k s κ = some a → Out F X n0 ret k s κ a := by
 intro n
 induction n with
 | zero => intro k s κ a _ h; simp [evc] at h
 | succ n ih =>
  intro k s κ a hL h
  cases k with
  | skip => exact .inl ⟨_, _, by simp, runs_skip, h⟩
  | label l => exact .inl ⟨_, _, by simp, runs_label, h⟩
  | exit id => exact .inl ⟨_, _, by simp, runs_exit, h⟩
  | goto l => exact .inl ⟨_, _, by simp, runs_goto, h⟩
  | ret => exact .inr ⟨_, runs_ret, h⟩
  | bad => simp [evc] at h
  | region ops d =>
   simp only [evc] at h
   obtain ⟨m, e', H', h1, h2⟩ := evOpsc_spec hT hO h
   exact .inl ⟨_, _, by simp, runs_region m h1, h2⟩
  | seq x y =>
   simp only [evc] at h
   have hx : LoopOK F X n0 ret LP (lps x) := fun t b hm => hL t b (by simp [lps, hm])
   have hy : LoopOK F X n0 ret LP (lps y) := fun t b hm => hL t b (by simp [lps, hm])
   rcases ih x s _ a hx h with ⟨r, s1, hr, h1, h2⟩ | ⟨s1, h1, h2⟩
   ·cases r with
    | norm =>
     rcases ih y s1 κ a hy h2 with ⟨r2, s2, hr2, h3, h4⟩ | ⟨s2, h3, h4⟩
     ·exact .inl ⟨r2, s2, hr2, runs_seq h1 h3, h4⟩
     ·exact .inr ⟨s2, runs_seq h1 h3, h4⟩
    | exit id => exact .inl ⟨_, _, hr, runs_seq_out h1 (by simp), h2⟩
    | goto l => exact .inl ⟨_, _, hr, runs_seq_out h1 (by simp), h2⟩
    | ret => exact absurd rfl hr
   ·exact .inr ⟨s1, runs_seq_out h1 (by simp), h2⟩
  | cond c x y =>
   simp only [evc] at h
   have hx : LoopOK F X n0 ret LP (lps x) := fun t b hm => hL t b (by simp [lps, hm])
   have hy : LoopOK F X n0 ret LP (lps y) := fun t b hm => hL t b (by simp [lps, hm])
   split at h <;> try (cases h; done)
   rename_i t ht
   cases t with
   | true =>
    rcases ih x s κ a hx h with ⟨r, s1, hr, h1, h2⟩ | ⟨s1, h1, h2⟩
    ·exact .inl ⟨r, s1, hr, runs_cond_t ht h1, h2⟩
    ·exact .inr ⟨s1, runs_cond_t ht h1, h2⟩
   | false =>
    rcases ih y s κ a hy h with ⟨r, s1, hr, h1, h2⟩ | ⟨s1, h1, h2⟩
    ·exact .inl ⟨r, s1, hr, runs_cond_f ht h1, h2⟩
    ·exact .inr ⟨s1, runs_cond_f ht h1, h2⟩
  | block id x =>
   simp only [evc] at h
   rcases ih x s _ a hL h with ⟨r, s1, hr, h1, h2⟩ | ⟨s1, h1, h2⟩
   ·cases r with
    | norm => exact .inl ⟨_, _, hr, runs_block h1 (by simp), h2⟩
    | exit id' =>
     simp only [] at h2
     split at h2
     ·rename_i e; subst e; exact .inl ⟨_, _, by simp, runs_block_exit h1, h2⟩
     ·rename_i e; exact .inl ⟨_, _, hr, runs_block_out h1 e, h2⟩
    | goto l => exact .inl ⟨_, _, hr, runs_block h1 (by simp), h2⟩
    | ret => exact absurd rfl hr
   ·exact .inr ⟨s1, runs_block h1 (by simp), h2⟩
  | loop t b => exact hL t b (by simp [lps]) s κ a h
  | pre t x =>
   simp only [evc] at h
   obtain ⟨s0, h1, h2⟩ := trimc_spec h
   rcases ih x s0 κ a hL h2 with ⟨r, s1, hr, h3, h4⟩ | ⟨s1, h3, h4⟩
   ·exact .inl ⟨r, s1, hr, runs_pre h1 h3, h4⟩
   ·exact .inr ⟨s1, runs_pre h1 h3, h4⟩
  | scope x =>
   simp only [evc] at h
   rcases ih (.rsm x x) s κ a (fun t b hm => hL t b (by simpa [lps] using hm)) h with ⟨r, s1, hr, h1, h2⟩ | ⟨s1, h1, h2⟩
   ·exact .inl ⟨r, s1, hr, runs_scope h1, h2⟩
   ·exact .inr ⟨s1, runs_scope h1, h2⟩
  | rsm x y =>
   simp only [evc] at h
   have hx : LoopOK F X n0 ret LP (lps x) := fun t b hm => hL t b (by simp [lps, hm])
   have hy : ∀ u, u ∈ lps y → u ∈ lps (.rsm x y) := fun u hu => by simp [lps, hu]
   rcases ih x s _ a hx h with ⟨r, s1, hr, h1, h2⟩ | ⟨s1, h1, h2⟩
   ·cases r with
    | norm => exact .inl ⟨_, _, hr, runs_rsm h1 (by simp), h2⟩
    | exit id => exact .inl ⟨_, _, hr, runs_rsm h1 (by simp), h2⟩
    | ret => exact absurd rfl hr
    | goto l =>
     simp only [] at h2
     cases hf : findK y l with
     | none => rw [hf] at h2; exact .inl ⟨_, _, hr, runs_rsm_none h1 hf, h2⟩
     | some rest =>
      rw [hf] at h2
      have hL' : LoopOK F X n0 ret LP (lps (.rsm rest y)) := fun t b hm => hL t b (by
       simp only [lps, List.mem_append] at hm
       rcases hm with hm | hm
       ·exact hy _ (lps_find hf _ hm)
       ·exact hy _ hm)
      rcases ih (.rsm rest y) s1 κ a hL' h2 with ⟨r2, s2, hr2, h3, h4⟩ | ⟨s2, h3, h4⟩
      ·exact .inl ⟨r2, s2, hr2, runs_rsm_goto h1 hf h3, h4⟩
      ·exact .inr ⟨s2, runs_rsm_goto h1 hf h3, h4⟩
   ·exact .inr ⟨s1, runs_rsm h1 (by simp), h2⟩
end Go.Proofs.YtchoafdpckknmaaDoorE
