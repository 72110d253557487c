/- Functions that are answered for without their text: slices.Clone and bytes.Clone of bytes (their text stands here), internal/bytealg.IndexByteString (the model's own). -/
import Derived.Test.YtchoafdpckknmaaDoorEvP4
import Derived.Test.YtchoafdpckknmaaDoorEvJo
import Derived.KernelRfl
import Derived.Laws.Externs
import Derived.Lib.MakeNoZero
namespace Go.Proofs.YtchoafdpckknmaaDoorE
open Go
set_option linter.unusedVariables false
set_option linter.unusedSimpArgs false
/-- slices.Clone and bytes.Clone -/
def kclone : Fun := ⟨1, 8, [0, 2, 4], [(.tmp 2)],
 (.seq (.region [
  ⟨(some 2), (.mv (.c .nils)), none, []⟩] false)
 (.seq (.seq (.region [
  ⟨(some 3), (.mv (.s 0)), none, []⟩,
  ⟨(some 4), (.eqn .s false (.s 3) (.c .nils)), none, [0]⟩] false)
 (.cond (.s 4)
  (.seq (.region [
   ⟨(some 2), (.mv (.c .nils)), none, []⟩] false)
  .ret)
  .skip))
 (.seq (.region [
  ⟨(some 5), (.bsl 0 1 (.imm []) []), none, []⟩,
  ⟨(some 6), (.mv (.s 0)), none, []⟩,
  ⟨(some 7), (.app 1 1 (.s 5) (.s 6)), none, [0, 1]⟩,
  ⟨(some 2), (.mv (.s 7)), none, [2, 2, 0, 1, 2]⟩] false)
 .ret))), false, (some [(Sh.sl (Sh.int .u8))]), none, false⟩
/-- a kind, and bytes -/
abbrev shA : Sh := .pr (.int .u8) (.sl (.int .u8))
/-- slices.Clone of rows of a kind and bytes -/
def kclone2 : Fun := ⟨1, 8, [0, 2, 4], [(.tmp 2)],
 (.seq (.region [
  ⟨(some 2), (.mv (.c .nils)), none, []⟩] false)
 (.seq (.seq (.region [
  ⟨(some 3), (.mv (.s 0)), none, []⟩,
  ⟨(some 4), (.eqn .s false (.s 3) (.c .nils)), none, [0]⟩] false)
 (.cond (.s 4)
  (.seq (.region [
   ⟨(some 2), (.mv (.c .nils)), none, []⟩] false)
  .ret)
  .skip))
 (.seq (.region [
  ⟨(some 5), (.bsl 0 2 (.imm []) []), none, []⟩,
  ⟨(some 6), (.mv (.s 0)), none, []⟩,
  ⟨(some 7), (.app 2 32 (.s 5) (.s 6)), none, [0, 1]⟩,
  ⟨(some 2), (.mv (.s 7)), none, [2, 2, 0, 1, 2]⟩] false)
 .ret))), false, (some [.sl shA]), (some (.sl shA)), false⟩
def F1 : Nat → Option Fun
 | 61 => some kclone
 | 108 => some kclone
 | 320 => some kclone2
 | _ => none
def cloneX : (s : Sh) → List s.T → Option (V × List Blk)
 | .int .u8, l => if l.length ≤ 1099511627776 then some (ownOut .u8 l) else none
 | _, _ => none
def cloneA : (s : Sh) → List s.T → Option (V × List Blk)
 | .pr (.int .u8) (.sl (.int .u8)), l => if l.length ≤ 80000 then some (.tb shA l, []) else none
 | _, _ => none
def XT : Nat → List V → Option (V × List Blk)
 | 61, [.tb s l] => cloneX s l
 | 108, [.tb s l] => cloneX s l
 | 320, [.tb s l] => cloneA s l
 | 66, [.str s, .int .u8 c] => some (.int .i64 (firstIdx ⟨s.toArray⟩ c.toNat.toUInt8), [])
 | 400, [.int .i64 n] => if 0 < n ∧ n ≤ 1000000 then some (.sl 0 0 n.toNat none 1, [.cells false (.ints .u8 [])]) else none
 | _, _ => none
structure XOK (P : Program) (m : Nat → Option Nat) : Prop where
 c61 : ∀ f, m f = some 61 → ∃ pf, P.funcs[f]? = some pf ∧ FunOK P m pf kclone
 c108 : ∀ f, m f = some 108 → ∃ pf, P.funcs[f]? = some pf ∧ FunOK P m pf kclone
 c320 : ∀ f, m f = some 320 → ∃ pf, P.funcs[f]? = some pf ∧ FunOK P m pf kclone2
 c66 : ∀ f, m f = some 66 → ∃ pf, P.funcs[f]? = some pf ∧ (pf.name == "runtime.NumGoroutine") = false ∧ pf.body.isNone = true ∧ Extern.findNext pf = none ∧ Extern.find pf = some Extern.BytealgIndexByte.indexByte
 c400 : ∀ f, m f = some 400 → ∃ pf t el, P.funcs[f]? = some pf ∧ (pf.name == "runtime.NumGoroutine") = false ∧ pf.body.isNone = true ∧ Extern.findNext pf = none ∧ Extern.find pf = some (Extern.BytealgMakeNoZero.makeNoZero pf.params #[t]) ∧ P.underlying t = some (.slice el)

/-! ### what Clone does -/
theorem cloneA_nil : evF F1 noX 40 320 [.nils] [] = some (.tb shA [], []) := by kernel_rfl
theorem cloneA_en : evF F1 noX 40 320 [.en] [] = some (.tb shA [], []) := by kernel_rfl
theorem rowsA : ∀ (L : List shA.T) (n : Nat), L.length + 5 ≤ n → ofRows [] [] n shA L.length (flat shA L) = some L
 | [], n, h => by
  obtain ⟨m, rfl⟩ : ∃ m, n = m + 1 := ⟨n - 1, by omega⟩
  rfl
 | (x, y) :: L, n, h => by
  obtain ⟨m, rfl⟩ : ∃ m, n = m + 5 := ⟨n - 5, by omega⟩
  have ih := rowsA L (m + 4) (by rw [List.length_cons] at h; omega)
  rw [List.length_cons]
  show ((ofCells [] [] (m + 4) shA (V.int .u8 x :: V.tb (.int .u8) y :: flat shA L)).bind fun p => (ofRows [] [] (m + 4) shA L.length p.2).map fun q => p.1 :: q) = _
  have e : ofCells [] [] (m + 4) shA (V.int .u8 x :: V.tb (.int .u8) y :: flat shA L) = some ((x, y), flat shA L) := rfl
  rw [e, Option.bind_some, ih]
  rfl
theorem rowsA_of {L : List shA.T} (h : L.length ≤ 80000) : rowsOf shA L.length (flat shA L) = some L := rowsA L 90000 (by omega)
theorem flatA_len : ∀ L : List shA.T, (flat shA L).length = L.length * 2
 | [] => rfl
 | (x, y) :: L => by
  show (V.int .u8 x :: V.tb (.int .u8) y :: flat shA L).length = _
  rw [List.length_cons, List.length_cons, flatA_len L, List.length_cons]
  omega
theorem clone_nil : evF F1 noX 40 61 [.nils] [] = some (.nils, []) ∧ evF F1 noX 40 108 [.nils] [] = some (.nils, []) := ⟨by kernel_rfl, by kernel_rfl⟩
theorem clone_en : evF F1 noX 40 61 [.en] [] = some (.sl 0 0 0 (some 0) 1, [.cells false (.imm [])]) ∧ evF F1 noX 40 108 [.en] [] = some (.sl 0 0 0 (some 0) 1, [.cells false (.imm [])]) := ⟨by kernel_rfl, by kernel_rfl⟩
def TX : Nat → Option Ent
 | _ => none
def RX : Nat → List REnt
 | _ => []
def WX : LoopF (List Int) := fun no =>
 match no with
 | _ => fun _ _ => none
theorem clone_ev (a : Int) (t : List Int) : evc TX (rawOf RX) WX (reto kclone.res .u8) (modeOf F1) 0 fuelC kclone.body (env0 kclone (encL [(Sh.sl (Sh.int .u8))] (a :: t, ())), []) (endK (reto kclone.res .u8)) =
  (bif ((decide (((0 + (List.length (a :: t))) * 1) ≤ 1099511627776)) && (decide ((0 + (List.length (a :: t))) ≤ 1099511627776))) then
   bif ((0 + (List.length (a :: t))) == (List.length (a :: t))) then
    some (a :: t)
   else none
  else none) := by kernel_rfl
def WX2 : LoopF (List shA.T) := fun no =>
 match no with
 | _ => fun _ _ => none
theorem cloneA_ev (a : shA.T) (t : List shA.T) : evc TX (rawOf RX) WX2 (retc kclone2.res (.sl shA)) (modeOf F1) 0 fuelC kclone2.body (env0 kclone2 (encL [(Sh.sl shA)] (a :: t, ())), []) (endK (retc kclone2.res (.sl shA))) =
  (bif ((decide (((0 + (List.length (a :: t))) * 32) ≤ 1099511627776)) && (decide ((0 + (List.length (a :: t))) ≤ 1099511627776))) then
   bif (decide (0 + (0 + (List.length (a :: t))) * 2 ≤ List.length (flat shA (a :: t)))) then
    match rowsOf shA (0 + List.length (a :: t)) (List.take ((0 + (List.length (a :: t))) * 2) (List.drop 0 (flat shA (a :: t)))) with
    | some L => some L
    | none => none
   else none
  else none) := by kernel_rfl
theorem cloneA_cons {a : shA.T} {t : List shA.T} (h : (a :: t).length ≤ 80000) : Ans F1 noX 320 [.tb shA (a :: t)] [] (.tb shA (a :: t)) [] := by
 have hT : TabOK F1 noX TX := by
  intro g en hg
  unfold TX at hg
  cases hg
 have hO : RawOK F1 noX (rawOf (α := List shA.T) RX) := by
  refine rawOf_ok (fun g en hg => ?_)
  unfold RX at hg
  cases hg
 refine ans_c (R := .sl shA) (fn := kclone2) (tab := TX) (raw := (rawOf RX)) (LP := WX2) (fu := fuelC) (z := a :: t) hT hO rfl rfl (Nat.le_of_ble_eq_true rfl) loopOK_nil ((cloneA_ev a t).trans ?_)
 have hl := flatA_len (a :: t)
 rw [Nat.zero_add, List.drop_zero, List.take_of_length_le (by omega), rowsA_of h]
 rw [show decide ((List.length (a :: t)) * 32 ≤ 1099511627776) = true from decide_eq_true (by omega), show decide ((List.length (a :: t)) ≤ 1099511627776) = true from decide_eq_true (by omega), show decide (0 + (List.length (a :: t)) * 2 ≤ List.length (flat shA (a :: t))) = true from decide_eq_true (by omega)]
 rfl
theorem clone_cons {g : Nat} (hg : F1 g = some kclone) {a : Int} {t : List Int} (h : (a :: t).length ≤ 1099511627776) : Ans F1 noX g [.tb (.int .u8) (a :: t)] [] (ownOut .u8 (a :: t)).1 (ownOut .u8 (a :: t)).2 := by
 have hT : TabOK F1 noX TX := by
  intro g en hg
  unfold TX at hg
  cases hg
 have hO : RawOK F1 noX (rawOf (α := List Int) RX) := by
  refine rawOf_ok (fun g en hg => ?_)
  unfold RX at hg
  cases hg
 refine ans_o (tab := TX) (raw := (rawOf RX)) (LP := WX) (fu := fuelC) (z := a :: t) hT hO hg rfl (Nat.le_of_ble_eq_true rfl) loopOK_nil ((clone_ev a t).trans ?_)
 rw [show decide (((0 + (List.length (a :: t))) * 1) ≤ 1099511627776) = true from decide_eq_true (by omega), show decide ((0 + (List.length (a :: t))) ≤ 1099511627776) = true from decide_eq_true (by omega), Nat.zero_add, beq_self_eq_true]
 rfl

theorem hrel_more {m : Nat → Option Nat} {I O : Nat → Prop} {w : World} {ρ : Pl} (h : HRel m I O w ρ []) (b : Blk) : HRel m I O w ρ [b] := by
 have no : ∀ i, ρ i = none := fun i => by
  cases hr : ρ i with
  | none => rfl
  | some r =>
   obtain ⟨u, hu, _⟩ := h.blk i r hr
   simp at hu
 exact ⟨fun i j r hi => by simp [no] at hi, fun i r hi => by simp [no] at hi, h.lt, h.own, h.imm, h.dis, h.tab⟩
theorem hrel_empty {m : Nat → Option Nat} {I O : Nat → Prop} {w : World} {ρ : Pl} (h : HRel m I O w ρ [.cells false (.imm [])]) : HRel m I O w ρ [.cells false (.ints .u8 [])] := by
 refine ⟨fun i j r hi hj li lj => ?_, fun i r hi => ?_, h.lt, h.own, h.imm, h.dis, h.tab⟩
 ·obtain ⟨u, hu, _⟩ := li
  obtain ⟨v, hv, _⟩ := lj
  have h1 := (List.getElem?_eq_some_iff.1 hu).1
  have h2 := (List.getElem?_eq_some_iff.1 hv).1
  simp at h1 h2
  omega
 ·obtain ⟨u, hu, hB⟩ := h.blk i r hi
  have h1 := (List.getElem?_eq_some_iff.1 hu).1
  simp at h1
  subst h1
  simp at hu
  subst hu
  obtain ⟨cs, e, fr, k1, k2, k3, k4, k5, k6, k7⟩ := hB
  exact ⟨_, rfl, cs, e, fr, k1, k2, Nat.zero_le _, fun j v hj => by simp [C.get] at hj, fun j v x hj => by simp [C.get] at hj, k6, k7⟩
theorem one_arg {m : Nat → Option Nat} {I : Nat → Prop} {w : World} {ρ : Pl} {v : V} {ys : Array Value} (h : RelVs m I w ρ [v] ys.toList) : ∃ y, ys = #[y] ∧ RelV m I w ρ v y := by
 have hl : ys.toList.length = 1 := by simpa using h.1
 obtain ⟨l⟩ := ys
 match l, hl with
 | [y], _ => exact ⟨y, rfl, h.2 0 v y rfl rfl⟩
theorem arg_one {m : Nat → Option Nat} {I : Nat → Prop} {w : World} {ρ : Pl} {v : V} {y : Value} (h : RelV m I w ρ v y) : RelVs m I w ρ [v] (#[y] : Array Value).toList :=
 ⟨rfl, fun j u x hu hx => by
  cases j with
  | zero => simp at hu hx; subst hu; subst hx; exact h
  | succ j => simp at hu⟩
theorem clone_snd {P : Program} {m : Nat → Option Nat} (hm : P.follows .mixedOrders = true) (h : XOK P m) {f g : Nat} (hg : g = 61 ∨ g = 108) {s : Sh} {l : List s.T} {H' : List Blk} {r : V} (hf : m f = some g) (hx : cloneX s l = some (r, H'))
  {I O : Nat → Prop} {w : World} {ρ : Pl} {ys : Array Value} (hxs : RelVs m I w ρ [.tb s l] ys.toList) (hH : HRel m I O w ρ []) :
  CallRuns P f ys w (fun e w' => ∃ x I' O' ρ', e = .returned x ∧ RelV m I' w' ρ' r x ∧ HRel m I' O' w' ρ' H' ∧ CG 0 I O w ρ [] I' O' w' ρ' H') := by
 have hL : Link P m F1 := fun f g fn h1 h2 => by
  unfold F1 at h2
  split at h2
  ·injection h2 with h2; subst h2; exact h.c61 f h1
  ·injection h2 with h2; subst h2; exact h.c108 f h1
  ·injection h2 with h2; subst h2; exact h.c320 f h1
  ·cases h2
 have snd := evF_sound hm hL (noX_snd (P := P) (m := m) (F := F1))
 unfold cloneX at hx
 split at hx
 ·rename_i l
  split at hx <;> try (cases hx; done)
  rename_i hle
  simp only [ownOut, Option.some.injEq, Prod.mk.injEq] at hx
  obtain ⟨rfl, rfl⟩ := hx
  have hF : F1 g = some kclone := by rcases hg with rfl | rfl <;> rfl
  cases l with
  | nil =>
   obtain ⟨y, rfl, hy⟩ := one_arg hxs
   obtain ⟨A, rc, fv, rfl, _, _, _, hnl⟩ := hy.tb_inv
   cases A with
   | none =>
    obtain rfl := hnl rfl
    have hev : evF F1 noX 40 g [.nils] [] = some (.nils, []) := by rcases hg with rfl | rfl; exact clone_nil.1; exact clone_nil.2
    refine (snd 40 f g [.nils] [] [] .nils hf hev I O w ρ _ (arg_one (.nils _)) hH).mono fun e w' ⟨x, I', O', ρ', h1, h2, h3, h4⟩ => ?_
    cases h2
    exact ⟨_, I', O', ρ', h1, .sl0 _ _ _ _ _ _ (fun c hc => by cases hc), hrel_more h3 _, ⟨h4.imm, h4.ext, h4.imm', h4.own', h4.pl, h4.pl', Nat.zero_le _, fun j hj => by omega⟩⟩
   | some A =>
    have hev : evF F1 noX 40 g [.en] [] = some (.sl 0 0 0 (some 0) 1, [.cells false (.imm [])]) := by rcases hg with rfl | rfl; exact clone_en.1; exact clone_en.2
    refine (snd 40 f g [.en] [] _ _ hf hev I O w ρ _ (arg_one (.en _ _ _)) hH).mono fun e w' ⟨x, I', O', ρ', h1, h2, h3, h4⟩ => ?_
    have h2' : RelV m I' w' ρ' (.sl 0 0 0 none 1) x := by
     cases h2 with
     | sl0 => exact .sl0 _ _ _ _ _ _ (fun c hc => by cases hc)
     | sl1 _ _ _ _ _ _ r rc n k1 k2 k3 k4 k5 => exact .sl1 _ _ _ _ _ _ r rc n k1 k2 (fun c hc => by cases hc) k4 k5
    exact ⟨_, I', O', ρ', h1, h2', hrel_empty h3, ⟨h4.imm, h4.ext, h4.imm', h4.own', h4.pl, h4.pl', Nat.zero_le _, fun j hj => by omega⟩⟩
  | cons a t =>
   obtain ⟨n, hn⟩ := clone_cons hF (a := a) (t := t) hle
   exact snd n f g _ [] _ _ hf hn I O w ρ ys hxs hH
 ·cases hx
theorem cloneA_snd {P : Program} {m : Nat → Option Nat} (hm : P.follows .mixedOrders = true) (h : XOK P m) {f : Nat} {s : Sh} {l : List s.T} {H' : List Blk} {r : V} (hf : m f = some 320) (hx : cloneA s l = some (r, H'))
  {I O : Nat → Prop} {w : World} {ρ : Pl} {ys : Array Value} (hxs : RelVs m I w ρ [.tb s l] ys.toList) (hH : HRel m I O w ρ []) :
  CallRuns P f ys w (fun e w' => ∃ x I' O' ρ', e = .returned x ∧ RelV m I' w' ρ' r x ∧ HRel m I' O' w' ρ' H' ∧ CG 0 I O w ρ [] I' O' w' ρ' H') := by
 have hL : Link P m F1 := fun f g fn h1 h2 => by
  unfold F1 at h2
  split at h2
  ·injection h2 with h2; subst h2; exact h.c61 f h1
  ·injection h2 with h2; subst h2; exact h.c108 f h1
  ·injection h2 with h2; subst h2; exact h.c320 f h1
  ·cases h2
 have snd := evF_sound hm hL (noX_snd (P := P) (m := m) (F := F1))
 unfold cloneA at hx
 split at hx
 ·rename_i l
  split at hx <;> try (cases hx; done)
  rename_i hle
  simp only [Option.some.injEq, Prod.mk.injEq] at hx
  obtain ⟨rfl, rfl⟩ := hx
  cases l with
  | nil =>
   obtain ⟨y, rfl, hy⟩ := one_arg hxs
   obtain ⟨A, rc, fv, rfl, _, _, _, hnl⟩ := hy.tb_inv
   cases A with
   | none =>
    obtain rfl := hnl rfl
    exact snd 40 f 320 [.nils] [] [] (.tb shA []) hf cloneA_nil I O w ρ _ (arg_one (.nils _)) hH
   | some A => exact snd 40 f 320 [.en] [] [] (.tb shA []) hf cloneA_en I O w ρ _ (arg_one (.en _ _ _)) hH
  | cons a t =>
   obtain ⟨n, hn⟩ := cloneA_cons (a := a) (t := t) hle
   exact snd n f 320 _ [] _ _ hf hn I O w ρ ys hxs hH
 ·cases hx
theorem ixb_snd {P : Program} {m : Nat → Option Nat} (h : XOK P m) {f : Nat} {s : List UInt8} {c : Int} (hf : m f = some 66)
  {I O : Nat → Prop} {w : World} {ρ : Pl} {ys : Array Value} (hxs : RelVs m I w ρ [.str s, .int .u8 c] ys.toList) (hH : HRel m I O w ρ []) :
  CallRuns P f ys w (fun e w' => ∃ x I' O' ρ', e = .returned x ∧ RelV m I' w' ρ' (.int .i64 (firstIdx ⟨s.toArray⟩ c.toNat.toUInt8)) x ∧ HRel m I' O' w' ρ' [] ∧ CG 0 I O w ρ [] I' O' w' ρ' []) := by
 obtain ⟨pf, h1, h2, h3, h4, h5⟩ := h.c66 f hf
 have hl : ys.toList.length = 2 := by simpa using hxs.1
 obtain ⟨l⟩ := ys
 match l, hl with
 | [y, z], _ =>
  have g1 := hxs.2 0 _ y rfl rfl
  have g2 := hxs.2 1 _ z rfl rfl
  cases g1
  cases g2
  refine .inr ⟨.int .i64 (firstIdx ⟨s.toArray⟩ c.toNat.toUInt8), w, ?_, _, I, O, ρ, rfl, .int _ _ _, hH, ⟨fun _ h => h, .refl _ _, fun _ h => .inl h, fun _ h => .inl h, fun i hi => by omega, fun i r hr _ => .inr (.inr ⟨i, Nat.zero_le _, hr⟩), Nat.le_refl _, fun j hj => by omega⟩⟩
  rw [run_callFunc_extern h1 h2 h3 h4 h5, run_indexByte_string]
  rfl
theorem mnz_snd {P : Program} {m : Nat → Option Nat} (h : XOK P m) {f : Nat} {n : Int} (hf : m f = some 400) (hn : 0 < n ∧ n ≤ 1000000)
  {I O : Nat → Prop} {w : World} {ρ : Pl} {ys : Array Value} (hxs : RelVs m I w ρ [.int .i64 n] ys.toList) (hH : HRel m I O w ρ []) :
  CallRuns P f ys w (fun e w' => ∃ x I' O' ρ', e = .returned x ∧ RelV m I' w' ρ' (.sl 0 0 n.toNat none 1) x ∧ HRel m I' O' w' ρ' [.cells false (.ints .u8 [])] ∧ CG 0 I O w ρ [] I' O' w' ρ' [.cells false (.ints .u8 [])]) := by
 obtain ⟨pf, t, el, h1, h2, h3, h4, h5, ht⟩ := h.c400 f hf
 obtain ⟨y, rfl, hy⟩ := one_arg hxs
 cases hy
 obtain ⟨k, rfl⟩ : ∃ k : Nat, n = (k : Int) := ⟨n.toNat, by omega⟩
 obtain ⟨cs, hr, hk, _⟩ := Go.Lib.run_makeNoZero w pf.params t el ht k (by omega)
 have no : ρ 0 = none := by
  cases hr0 : ρ 0 with
  | none => rfl
  | some r =>
   obtain ⟨u, hu, _⟩ := hH.blk 0 r hr0
   simp at hu
 obtain ⟨g1, g2⟩ := grow_new (w := w) (w' := w.drew.drew.alloc (.cells cs el)) (obj := .cells cs el (0, 0)) (i := 0) (Hb := [.cells false (.ints .u8 [])]) (b := .cells false (.ints .u8 [])) rfl rfl rfl rfl (hrel_more hH (.cells false (.ints .u8 []))) no rfl
  (fun O' ρ' ho hz hm => new_cells (w := w) (xs := []) (w' := w.drew.drew.alloc (.cells cs el)) rfl hz hm ⟨rfl, fun j v hv => by simp [C.get] at hv, fun j v x hv => by simp [C.get] at hv⟩ (fun j x hx => by simp at hx))
 have hsz : sizeOf? (w.drew.drew.alloc (.cells cs el)) w.heap.size = some cs.size := by
  have e : (w.drew.drew.alloc (.cells cs el)).heap[w.heap.size]? = some (.cells cs el (0, 0)) := by show (w.heap.push _)[w.heap.size]? = _; simp
  unfold sizeOf?
  rw [e]
 refine .inr ⟨.slice (some ⟨w.heap.size, 0, none⟩) k cs.size, _, ?_, _, I, _, _, rfl, .sl1 _ 0 0 _ 1 _ w.heap.size cs.size cs.size (by simp [plus]) (by simpa using hk) (fun c hc => by cases hc) hsz (by omega), g1, ?_⟩
 ·rw [run_callFunc_extern h1 h2 h3 h4 h5, hr]
  rfl
 ·exact (g2.gs hH.imm).cg (H := []) (n0 := 0) ⟨Nat.zero_le _, fun j hj => absurd hj (Nat.not_lt_zero _)⟩ (Nat.le_refl _) hH
theorem xt_snd {P : Program} {m : Nat → Option Nat} {F : Nat → Option Fun} (hm : P.follows .mixedOrders = true) (h : XOK P m) : XSnd P m F XT := by
 intro f g xs H' r hf _ hx I O w ρ ys hxs hH
 unfold XT at hx
 split at hx
 ·exact clone_snd hm h (.inl rfl) hf hx hxs hH
 ·exact clone_snd hm h (.inr rfl) hf hx hxs hH
 ·exact cloneA_snd hm h hf hx hxs hH
 ·simp only [Option.some.injEq, Prod.mk.injEq] at hx
  obtain ⟨rfl, rfl⟩ := hx
  exact ixb_snd h hf hxs hH
 ·split at hx <;> try (cases hx; done)
  rename_i hn
  simp only [Option.some.injEq, Prod.mk.injEq] at hx
  obtain ⟨rfl, rfl⟩ := hx
  exact mnz_snd h hf hn hxs hH
 ·cases hx
/-! ### their plain functions -/
theorem find_extern0 {pf : Func} {t : TypeId} (hn : pf.name = "internal/bytealg.MakeNoZero") (hr : pf.resultTypes = #[t]) : Extern.find pf = some (Extern.BytealgMakeNoZero.makeNoZero pf.params #[t]) := by
 unfold Extern.find
 simp only [hn, ← hr]
 rfl
theorem find_next0 {pf : Func} (hn : pf.name = "internal/bytealg.MakeNoZero") (ho : pf.origin = "") : Extern.findNext pf = none := by
 unfold Extern.findNext
 simp only [hn, ho]
 rfl
theorem find_extern {pf : Func} (hn : pf.name = "internal/bytealg.IndexByteString") : Extern.find pf = some Extern.BytealgIndexByte.indexByte := by
 unfold Extern.find
 simp only [hn]
 rfl
theorem find_next {pf : Func} (hn : pf.name = "internal/bytealg.IndexByteString") (ho : pf.origin = "") : Extern.findNext pf = none := by
 unfold Extern.findNext
 simp only [hn, ho]
 rfl
end Go.Proofs.YtchoafdpckknmaaDoorE
