/- Arguments as data. -/
import Derived.Test.YtchoafdpckknmaaDoorEvXT
import Derived.Test.YtchoafdpckknmaaDoorEvJo
import Derived.OpenShut
import Derived.WideShapes
namespace Go.Proofs.YtchoafdpckknmaaDoorE
open Go Go.RowKit Go.WideShapes
set_option linter.unusedSimpArgs false
set_option linter.unusedVariables false
variable {P : Program} {m : Nat → Option Nat} {w : World}

def prsSh : List Sh → Option Sh
 | [] => none
 | [s] => some s
 | s :: t :: r => (prsSh (t :: r)).map (Sh.pr s)
def fldsSh (P : Program) (g : TypeId → Option (List Sh)) : List Field → Nat → Option (List Sh)
 | [], _ => some []
 | f :: r, o => (g f.type).bind fun l => if f.offset = o ∧ P.cellsOf f.type = l.length then (fldsSh P g r (o + l.length)).map (l ++ ·) else none
/-- the shapes of a type's cells -/
def cellSh (P : Program) : Nat → TypeId → Option (List Sh)
 | 0, _ => none
 | n + 1, t =>
  match P.underlying t with
  | some (.int k) => some [.int k]
  | some .bool => some [.bool]
  | some .string => some [.str]
  | some (.slice e) => (cellSh P n e).bind fun l => if P.cellsOf e = l.length then (prsSh l).map fun s => [.sl s] else none
  | some (.array c e) => (cellSh P n e).bind fun l => if P.cellsOf e = l.length ∧ P.cellsOf t = c * l.length then some (List.replicate c l).flatten else none
  | some (.struct fs) => (fldsSh P (cellSh P n) fs.toList 0).bind fun l => if P.cellsOf t = l.length then some l else none
  | _ => none
/-- data that fit their kinds -/
def okD : (s : Sh) → s.T → Prop
 | .int k, n => (Lit.int k n).wf = true
 | .bool, _ => True
 | .str, l => l.length ≤ maxLen
 | .sl s, l => l.length ≤ maxLen ∧ ∀ x ∈ l, okD s x
 | .ar k, l => ∀ x ∈ l, (Lit.int k x).wf = true
 | .pr a b, r => okD a r.1 ∧ okD b r.2
 | .st s, r => okD s r
 | .tu s, r => okD s r
def cellish : Sh → Bool
 | .int _ | .bool | .str | .sl _ => true
 | _ => false
theorem cells_one {s : Sh} (h : cellish s = true) (d : s.T) : s.cells d = [s.enc d] := by cases s <;> first | rfl | cases h
def CellR (m : Nat → Option Nat) (w : World) (s : Sh) (y : Value) : Prop := cellish s = true ∧ ∃ d : s.T, RelV m (Old w) w noPl (s.enc d) y ∧ okD s d
def RowR (m : Nat → Option Nat) (w : World) (S : List Sh) (cs : List Value) : Prop := cs.length = S.length ∧ ∀ (j : Nat) (s : Sh) (y : Value), S[j]? = some s → cs[j]? = some y → CellR m w s y
/-- a row's cells as one piece of data -/
def DataR (m : Nat → Option Nat) (w : World) (s : Sh) (d : s.T) (cs : List Value) : Prop := okD s d ∧ ∀ (j : Nat) (v : V), (s.cells d)[j]? = some v → ∃ y, cs[j]? = some y ∧ RelV m (Old w) w noPl v y
theorem row_data : ∀ {S : List Sh} {s : Sh} {cs : List Value}, prsSh S = some s → RowR m w S cs → s.size = S.length ∧ ∃ d : s.T, DataR m w s d cs
 | [], s, cs, h, _ => by cases h
 | [s0], s, cs, h, hr => by
  simp only [prsSh, Option.some.injEq] at h; subst h
  obtain ⟨hl, hc⟩ := hr
  match cs, hl with
  | [y], _ =>
   obtain ⟨h1, d, h2, h3⟩ := hc 0 _ y rfl rfl
   have hz : s0.size = 1 := by cases s0 <;> first | rfl | cases h1
   refine ⟨hz, d, ⟨h3, fun j v hv => ?_⟩⟩
   rw [cells_one h1] at hv
   cases j with
   | zero => simp at hv; subst hv; exact ⟨y, rfl, h2⟩
   | succ j => simp at hv
 | s0 :: t :: r, s, cs, h, hr => by
  simp only [prsSh, Option.map_eq_some_iff] at h
  obtain ⟨s1, h1, rfl⟩ := h
  obtain ⟨hl, hc⟩ := hr
  match cs, hl with
  | y :: cs', hl =>
   obtain ⟨h0, d, h2, h3⟩ := hc 0 _ y rfl rfl
   obtain ⟨q1, d', q2, q3⟩ := row_data (cs := cs') h1 ⟨by simpa using hl, fun j s y hs hy => hc (j + 1) s y (by simpa using hs) (by simpa using hy)⟩
   have hz : s0.size = 1 := by cases s0 <;> first | rfl | cases h0
   refine ⟨by simp only [Sh.size, hz, q1, List.length_cons]; omega, (d, d'), ⟨⟨h3, q2⟩, fun j v hv => ?_⟩⟩
   simp only [Sh.cells, cells_one h0] at hv
   cases j with
   | zero => simp at hv; subst hv; exact ⟨y, rfl, h2⟩
   | succ j =>
    simp only [List.cons_append, List.nil_append, List.getElem?_cons_succ] at hv
    obtain ⟨z, hz1, hz2⟩ := q3 j v hv
    exact ⟨z, by simpa using hz1, hz2⟩
theorem exists_list {α : Type} {Q : Nat → α → Prop} : ∀ n : Nat, (∀ i, i < n → ∃ d, Q i d) → ∃ L : List α, L.length = n ∧ ∀ i d, L[i]? = some d → Q i d
 | 0, _ => ⟨[], rfl, fun i d h => by simp at h⟩
 | n + 1, h => by
  obtain ⟨L, h1, h2⟩ := exists_list n (fun i hi => h i (by omega))
  obtain ⟨d, hd⟩ := h n (by omega)
  refine ⟨L ++ [d], by simp [h1], fun i x hx => ?_⟩
  rcases Nat.lt_or_ge i n with hi | hi
  ·rw [List.getElem?_append_left (by omega)] at hx; exact h2 i x hx
  ·rw [List.getElem?_append_right (by omega)] at hx
   have : i = n := by
    rcases Nat.lt_or_ge (i - L.length) 1 with h3 | h3
    ·omega
    ·rw [List.getElem?_eq_none (by simpa using h3)] at hx; cases hx
   subst this
   simp [h1] at hx; subst hx; exact hd
theorem flat_get_inv (s : Sh) : ∀ {l : List s.T} {j : Nat} {v : V}, (flat s l)[j]? = some v → ∃ i o d, j = i * s.size + o ∧ o < s.size ∧ l[i]? = some d ∧ (s.cells d)[o]? = some v
 | [], j, v, h => by simp [flat] at h
 | a :: l, j, v, h => by
  have : flat s (a :: l) = s.cells a ++ flat s l := by simp [flat]
  rw [this] at h
  rcases Nat.lt_or_ge j s.size with hj | hj
  ·rw [List.getElem?_append_left (by rw [cells_len]; exact hj)] at h
   exact ⟨0, j, a, by simp, hj, rfl, h⟩
  ·rw [List.getElem?_append_right (by rw [cells_len]; exact hj), cells_len] at h
   obtain ⟨i, o, d, h1, h2, h3, h4⟩ := flat_get_inv s h
   exact ⟨i + 1, o, d, by rw [Nat.add_mul]; omega, h2, by simpa using h3, h4⟩
theorem add_add (a : Addr) (i j : Nat) (h : a.spot = none) : (a.add i).add j = ⟨a.block, a.off + (i + j), none⟩ := by
 obtain ⟨r, o, sp⟩ := a
 simp only at h
 subst h
 rw [add_mk, add_mk, Nat.add_assoc]
theorem RowR.append {S T : List Sh} {cs ds : List Value} (h : RowR m w S cs) (h' : RowR m w T ds) : RowR m w (S ++ T) (cs ++ ds) := by
 refine ⟨by simp [h.1, h'.1], fun j s y hs hy => ?_⟩
 rcases Nat.lt_or_ge j S.length with hj | hj
 ·rw [List.getElem?_append_left hj] at hs
  rw [List.getElem?_append_left (by rw [h.1]; exact hj)] at hy
  exact h.2 j s y hs hy
 ·rw [List.getElem?_append_right hj] at hs
  rw [List.getElem?_append_right (by rw [h.1]; exact hj), h.1] at hy
  exact h'.2 _ s y hs hy

theorem flds_row {g : TypeId → Option (List Sh)} {cs : List Value} : ∀ {fs : List Field} {o : Nat} {l : List Sh}, fldsSh P g fs o = some l →
  (∀ f ∈ fs, ∀ lf, g f.type = some lf → RowR m w lf ((cs.drop f.offset).take (P.cellsOf f.type))) → RowR m w l ((cs.drop o).take l.length)
 | [], o, l, h, _ => by
  simp only [fldsSh, Option.some.injEq] at h; subst h
  exact ⟨by simp, fun j s y hs => by simp at hs⟩
 | f :: fs, o, l, h, hf => by
  simp only [fldsSh, Option.bind_eq_some_iff] at h
  obtain ⟨lf, h1, h2⟩ := h
  split at h2 <;> try (cases h2; done)
  rename_i hc
  simp only [Option.map_eq_some_iff] at h2
  obtain ⟨l', h3, rfl⟩ := h2
  have h4 := hf f (by simp) lf h1
  have h5 := flds_row h3 (fun f' hf' lf' h' => hf f' (by simp [hf']) lf' h')
  rw [hc.1, hc.2] at h4
  have h6 := h4.append h5
  rw [← List.drop_drop] at h6
  have e : List.take lf.length (List.drop o cs) ++ List.take l'.length (List.drop lf.length (List.drop o cs)) = List.take (lf ++ l').length (List.drop o cs) := by
   rw [List.length_append, List.take_add]
  rw [e] at h6; exact h6

section
variable {H : Type} {enc : TypeId × Value → H} {held : Bool}
theorem trod_row : ∀ (n : Nat) (t : TypeId) (S : List Sh), cellSh P n t = some S → ∀ (fuel : Nat) (cs : List Value) (x : DataW H × List MemPlace),
  DataW.trod enc P w 0 (fun _ => true) held fuel t cs = some x → RowR m w S cs := by
 intro n
 induction n with
 | zero => intro t S h; simp [cellSh] at h
 | succ n ih =>
  intro t S h fuel cs x hx
  simp only [cellSh] at h
  split at h
  ·rename_i k ht
   injection h with h; subst h
   obtain ⟨z, rfl, _, hw⟩ := DataW.trod_int ht hx
   refine ⟨rfl, fun j s y hs hy => ?_⟩
   cases j <;> simp at hs hy
   subst hs; subst hy
   exact ⟨rfl, z, .int _ _ _, hw⟩
  ·rename_i ht
   injection h with h; subst h
   obtain ⟨z, rfl, _⟩ := DataW.trod_bool ht hx
   refine ⟨rfl, fun j s y hs hy => ?_⟩
   cases j <;> simp at hs hy
   subst hs; subst hy
   exact ⟨rfl, z, .bool _ _, trivial⟩
  ·rename_i ht
   injection h with h; subst h
   obtain ⟨z, rfl, _, hw⟩ := DataW.trod_string ht hx
   refine ⟨rfl, fun j s y hs hy => ?_⟩
   cases j <;> simp at hs hy
   subst hs; subst hy
   refine ⟨rfl, z.data.toList, ?_, by simpa [okD] using hw⟩
   have : (⟨z.data.toList.toArray⟩ : ByteArray) = z := by cases z; simp
   have h2 : RelV m (Old w) w noPl (.str z.data.toList) (.string ⟨z.data.toList.toArray⟩) := .str _ _
   rw [this] at h2; exact h2
  ·rename_i e ht
   simp only [Option.bind_eq_some_iff] at h
   obtain ⟨l, hl, h⟩ := h
   split at h <;> try (cases h; done)
   rename_i hce
   simp only [Option.map_eq_some_iff] at h
   obtain ⟨s, hs, rfl⟩ := h
   have goal : ∀ (y : Value) (L : List s.T), cs = [y] → RelV m (Old w) w noPl (.tb s L) y → L.length ≤ maxLen → (∀ d ∈ L, okD s d) → RowR m w [.sl s] cs := by
    intro y L hc h1 h2 h3
    subst hc
    refine ⟨rfl, fun j s' y' hs' hy' => ?_⟩
    cases j <;> simp at hs' hy'
    subst hs'; subst hy'
    exact ⟨rfl, L, h1, h2, h3⟩
   rcases DataW.trod_slice ht hx with ⟨rfl, _⟩ | ⟨a, len, cap, elems, rest, fu, _, rfl, _, _, hlc, hcm, hel, hget, _, _⟩
   ·exact goal _ [] rfl (.mk_tb (fun _ => undef) rfl (Nat.le_refl _) (fun j v hv => by simp [flat] at hv) (fun j v hv => by simp [flat] at hv) (fun _ => rfl)) (by simp) (by simp)
   ·have each : ∀ i, i < len → ∃ d : s.T, okD s d ∧ s.size = l.length ∧ ∀ (o : Nat) (v : V), (s.cells d)[o]? = some v → ∃ y, w.cell? ((a.add (i * P.cellsOf e)).add o) = some y ∧ RelV m (Old w) w noPl v y := by
     intro i hi
     have hg := hget i hi
     rw [List.getElem?_eq_getElem (by omega), Option.bind_eq_some_iff] at hg
     obtain ⟨cs', hc, ht'⟩ := hg
     have hr := ih e l hl fu cs' _ ht'
     obtain ⟨q0, d, q1, q2⟩ := row_data hs hr
     obtain ⟨_, hlen, hcell⟩ := World.cells?_some hc
     refine ⟨d, q1, q0, fun o v hv => ?_⟩
     obtain ⟨y, hy, hrel⟩ := q2 o v hv
     have ho : o < cs'.length := (List.getElem?_eq_some_iff.1 hy).1
     exact ⟨y, by rw [hcell o (by omega)]; exact hy, hrel⟩
    obtain ⟨L, hL1, hL2⟩ := exists_list len each
    refine goal _ L rfl ?_ (by omega) (fun d hd => ?_)
    ·have hsz : ∀ (j : Nat) (v : V), (flat s L)[j]? = some v → a.spot = none ∧ ∃ y, w.cell? ⟨a.block, a.off + j, none⟩ = some y ∧ RelV m (Old w) w noPl v y := by
      intro j v hv
      obtain ⟨i, o, d, h1, h2, h3, h4⟩ := flat_get_inv s hv
      obtain ⟨_, hz, hc⟩ := hL2 i d h3
      have hsp : a.spot = none := by
       have hL0 : 0 < L.length := by have := (List.getElem?_eq_some_iff.1 h3).1; omega
       generalize hd0 : L[0] = d0
       obtain ⟨_, hz0, hc0⟩ := hL2 0 d0 (by rw [List.getElem?_eq_getElem hL0, hd0])
       have hlen0 : 0 < (s.cells d0).length := by rw [cells_len]; omega
       obtain ⟨v0, hv0⟩ : ∃ v0, (s.cells d0)[0]? = some v0 := ⟨_, List.getElem?_eq_getElem hlen0⟩
       obtain ⟨y, hy, _⟩ := hc0 0 v0 hv0
       have hh := World.cell?_spot hy
       rw [Nat.zero_mul] at hh
       simpa [Addr.add] using hh
      obtain ⟨y, hy, hrel⟩ := hc o v h4
      rw [add_add _ _ _ hsp, hce, ← hz, ← h1] at hy
      exact ⟨hsp, y, hy, hrel⟩
     refine .mk_tb (fun j => (w.cell? ⟨a.block, a.off + j, none⟩).getD undef) hL1.symm (by omega) (fun j v hv => ?_) (fun j v hv => ?_) (fun h => by cases h)
     ·obtain ⟨hsp, y, hy, hrel⟩ := hsz j v hv
      have ha : a = ⟨a.block, a.off, none⟩ := by rw [← hsp]
      refine ⟨a.block, a.off, congrArg some ha, ?_, by rw [hy]; rfl⟩
      rcases Nat.lt_or_ge a.block w.heap.size with h3 | h3
      ·exact h3
      ·exfalso; simp [World.cell?, Array.getElem?_eq_none h3] at hy
     ·obtain ⟨hsp, y, hy, hrel⟩ := hsz j v hv
      simp only [hy]; exact hrel
    ·obtain ⟨i, hi⟩ := List.mem_iff_getElem?.1 hd
     exact (hL2 i d hi).1
  ·rename_i c e ht
   simp only [Option.bind_eq_some_iff] at h
   obtain ⟨l, hl, h⟩ := h
   split at h <;> try (cases h; done)
   rename_i hce
   injection h with h; subst h
   obtain ⟨xs, fu, _, _, hlen, hxs, hi⟩ := DataW.trod_array ht hx
   have each : ∀ i, i < c → RowR m w l ((cs.drop (i * l.length)).take l.length) := by
    intro i hic
    have := hi i hic
    rw [List.getElem?_eq_getElem (by omega), hce.1] at this
    exact ih e l hl fu _ _ this
   have all : ∀ k, k ≤ c → RowR m w (List.replicate k l).flatten (cs.take (k * l.length)) := by
    intro k
    induction k with
    | zero => intro _; exact ⟨by simp, fun j s y hs => by simp at hs⟩
    | succ k ihk =>
     intro hk
     have h1 := (ihk (by omega)).append (each k (by omega))
     have e1 : cs.take (k * l.length) ++ (cs.drop (k * l.length)).take l.length = cs.take ((k + 1) * l.length) := by
      rw [Nat.add_mul, Nat.one_mul, List.take_add]
     rw [e1] at h1
     have e2 : (List.replicate k l).flatten ++ l = (List.replicate (k + 1) l).flatten := by
      rw [List.replicate_succ', List.flatten_append]; simp
     rw [e2] at h1; exact h1
   have h1 := all c (Nat.le_refl _)
   have hcl : cs.take (c * l.length) = cs := List.take_of_length_le (by rw [hlen, hce.2]; exact Nat.le_refl _)
   rw [hcl] at h1; exact h1
  ·rename_i fs ht
   simp only [Option.bind_eq_some_iff] at h
   obtain ⟨l, hl, h⟩ := h
   split at h <;> try (cases h; done)
   rename_i hc
   injection h with h; subst h
   obtain ⟨xs, fu, _, _, hlen, hxs, hi⟩ := DataW.trod_struct ht hx
   have h1 := flds_row (m := m) (w := w) (cs := cs) hl (fun f hf lf hlf => by
    obtain ⟨i, hi'⟩ := List.mem_iff_getElem?.1 hf
    have hif : fs[i]? = some f := by rw [← Array.getElem?_toList]; exact hi'
    have hlt : i < fs.size := (Array.getElem?_eq_some_iff.1 hif).1
    have := hi i f hif
    rw [List.getElem?_eq_getElem (by omega)] at this
    exact ih f.type lf hlf fu _ _ this)
   rw [List.drop_zero, List.take_of_length_le (by omega)] at h1
   exact h1
  ·cases h
/-- a type's shape, as a value -/
def valSh (P : Program) (t : TypeId) : Option Sh :=
 match P.underlying t with
 | some (.struct _) | some (.array _ _) =>
  match cellSh P 20 t with
  | some (.int k :: r) => if r.all (fun s => (Sh.same s (.int k)).isSome) then some (.ar k) else (prsSh (.int k :: r)).map .st
  | some l => (prsSh l).map .st
  | none => none
 | some _ => match cellSh P 20 t with | some [s] => some s | _ => none
 | none => none
/-- how many whole numbers an array has -/
def szD (n : Nat) : (s : Sh) → s.T → Prop
 | .ar _, l => l.length = n
 | _, _ => True
theorem open_data {t : TypeId} {S : Sh} {v : Value} {d : DataW H} {ps : List MemPlace} {base : Nat} (hs : valSh P t = some S) (ho : Value.okWide P w .any base t v) (h : DataW.Trod enc P w 0 (fun _ => true) held t v d ps) :
  ∃ z : S.T, RelV m (Old w) w noPl (S.enc z) v ∧ okD S z ∧ szD (P.cellsOf t) S z := by
 obtain ⟨fuel, hf⟩ := h
 have row : ∀ l, cellSh P 20 t = some l → RowR m w l v.cells.toList := fun l hl => trod_row 20 t l hl fuel _ _ hf
 have agg : ∀ cs : Array Value, v = .agg cs → ∀ l s, cellSh P 20 t = some l → prsSh l = some s → ∃ z : s.T, RelV m (Old w) w noPl (.agg (.vals (s.cells z))) v ∧ okD s z := by
  intro cs hv l s hl hp
  have hr := row l hl
  subst hv
  obtain ⟨hz, z, h1, h2⟩ := row_data hp hr
  have hlen : cs.size = l.length := by have := hr.1; simpa [Value.cells] using this
  refine ⟨z, .agg _ _ _ ?_ (fun j v hv => (cells_cell s z v (List.mem_of_getElem? hv)).1) (fun j v y hv hy => ?_), h1⟩
  ·show cs.size = (s.cells z).length
   rw [cells_len, hz, hlen]
  ·obtain ⟨y', h3, h4⟩ := h2 j v hv
   have : y' = y := by
    have h5 : cs.toList[j]? = some y' := h3
    rw [Array.getElem?_toList, hy] at h5; injection h5 with h5; exact h5.symm
   subst this
   exact h4.idf (cells_cell s z v (List.mem_of_getElem? hv)).2 _
 have main : ∀ cs : Array Value, v = .agg cs → (match cellSh P 20 t with
  | some (.int k :: r) => if r.all (fun s => (Sh.same s (.int k)).isSome) then some (.ar k) else (prsSh (.int k :: r)).map .st
  | some l => (prsSh l).map .st
  | none => none) = some S → ∃ z : S.T, RelV m (Old w) w noPl (S.enc z) v ∧ okD S z ∧ szD (v.cells.size) S z := by
  intro cs hv hs
  split at hs
  ·rename_i k r hl
   split at hs
   ·rename_i hall
    injection hs with hs; subst hs
    have hr := row _ hl
    have hk : ∀ s ∈ (Sh.int k :: r), s = .int k := by
     intro s hs
     rcases List.mem_cons.1 hs with h1 | h1
     ·exact h1
     ·have := List.all_eq_true.1 hall s h1
      cases h2 : Sh.same s (.int k) with
      | none => rw [h2] at this; cases this
      | some h3 => exact h3.down
    subst hv
    have each : ∀ i, i < cs.size → ∃ n : Int, cs[i]? = some (.int k n) ∧ (Lit.int k n).wf = true := by
     intro i hi
     have hl1 : cs.size = (Sh.int k :: r).length := by have := hr.1; simpa [Value.cells] using this
     have e1 : (Sh.int k :: r)[i]? = some (Sh.int k) := by
      rw [List.getElem?_eq_getElem (by omega)]
      exact congrArg some (hk _ (List.getElem_mem _))
     obtain ⟨_, n, h1, h2⟩ := hr.2 i (.int k) cs[i] e1 (by show cs.toList[i]? = _; rw [Array.getElem?_toList, Array.getElem?_eq_getElem hi])
     refine ⟨n, ?_, h2⟩
     rw [Array.getElem?_eq_getElem hi]
     have h3 : RelV m (Old w) w noPl (.int k n) cs[i] := h1
     generalize cs[i] = z at h3
     cases h3; rfl
    obtain ⟨L, h1, h2⟩ := exists_list cs.size each
    refine ⟨L, .agg _ _ _ h1.symm (fun j v hv => ?_) (fun j v y hv hy => ?_), fun x hx => ?_, h1⟩
    ·simp only [C.get, Option.map_eq_some_iff] at hv
     obtain ⟨_, _, rfl⟩ := hv; rfl
    ·simp only [C.get, Option.map_eq_some_iff] at hv
     obtain ⟨n, hn, rfl⟩ := hv
     rw [(h2 j n hn).1] at hy
     injection hy with hy; subst hy
     exact .int _ _ _
    ·obtain ⟨i, hi⟩ := List.mem_iff_getElem?.1 hx
     exact (h2 i x hi).2
   ·simp only [Option.map_eq_some_iff] at hs
    obtain ⟨s, hp, rfl⟩ := hs
    obtain ⟨z, g1, g2⟩ := agg cs hv _ s hl hp
    exact ⟨z, g1, g2, trivial⟩
  ·rename_i l _ hl
   simp only [Option.map_eq_some_iff] at hs
   obtain ⟨s, hp, rfl⟩ := hs
   obtain ⟨z, g1, g2⟩ := agg cs hv _ s hl hp
   exact ⟨z, g1, g2, trivial⟩
  ·cases hs
 unfold valSh at hs
 split at hs
 ·rename_i fs ht
  simp only [Value.okWide, ht] at ho
  obtain ⟨cs, hv, hsz, _⟩ := ho
  have := main cs hv hs
  rwa [show v.cells.size = P.cellsOf t by rw [hv]; exact hsz] at this
 ·rename_i n e ht
  simp only [Value.okWide, ht] at ho
  obtain ⟨cs, hv, hsz, _⟩ := ho
  have := main cs hv hs
  rwa [show v.cells.size = P.cellsOf t by rw [hv]; exact hsz] at this
 ·rename_i u hn1 hn2 ht
  split at hs <;> try (cases hs; done)
  rename_i s hl
  injection hs with hs; subst hs
  have hr := row _ hl
  have single : ∀ y, v.cells.toList = [y] → (∃ z : s.T, RelV m (Old w) w noPl (s.enc z) y ∧ okD s z ∧ szD (P.cellsOf t) s z) := fun y hy => by
   obtain ⟨g0, z, g1, g2⟩ := hr.2 0 s y rfl (by rw [hy]; rfl)
   exact ⟨z, g1, g2, by cases s <;> first | trivial | cases g0⟩
  cases v with
  | agg cs =>
   -- no value of such a type
   exfalso
   have : Cell.okWide P w .any base t (.agg cs) := by
    unfold Value.okWide at ho
    split at ho
    ·rename_i h1; exact absurd (ht.symm.trans h1) (fun e => by injection e with e; exact hn1 _ e)
    ·rename_i h1; exact absurd (ht.symm.trans h1) (fun e => by injection e with e; exact hn2 _ _ e)
    ·exact ho
   simp only [Cell.okWide, Cell.ok, ht] at this
   all_goals (simp only [cellSh, ht] at hl; cases u <;> simp at hl this)
  | _ => exact single _ rfl
 ·cases hs
end
end Go.Proofs.YtchoafdpckknmaaDoorE
