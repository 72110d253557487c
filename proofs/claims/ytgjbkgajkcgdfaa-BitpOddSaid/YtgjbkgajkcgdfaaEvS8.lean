/- Contents that are put together; constants. -/
import Derived.Test.YtgjbkgajkcgdfaaEvS7
namespace Go.Proofs.YtgjbkgajkcgdfaaE
open Go
set_option linter.unusedSimpArgs false
set_option linter.unusedVariables false
variable {P : Program} {w : World} {m : Nat → Option Nat} {I O : Nat → Prop} {ρ : Pl} {H Hb : List Blk} {p q v : V} {x y : Value} {news : List Blk}

/-! ### constants -/
def ofCell : Value → Option V
  | .int k n => some (.int k n)
  | .bool b => some (.bool b)
  | .string s => some (.str s.data.toList)
  | .pointer none => some .nilp
  | .slice none 0 0 => some .nils
  | .nilFunc => some .nilf
  | .nilIface => some .nili
  | _ => none
def allInts (k : IntKind) : List Value → Option (List Int)
  | [] => some []
  | .int k' n :: r => if k = k' then (allInts k r).map (n :: ·) else none
  | _ :: _ => none
def contentOf (l : List Value) : Option C :=
  match l with
  | [] => some (.imm [])
  | .int k n :: r =>
    match allInts k (.int k n :: r) with
    | some l => some (.ints k l)
    | none => (l.mapM ofCell).map .vals
  | l => (l.mapM ofCell).map .vals
def ofValue : Value → Option V
  | .agg cs => (contentOf cs.toList).map .agg
  | v => ofCell v

theorem ofCell_rel (h : ofCell x = some v) : v.isCell = true ∧ RelV m I w ρ v x := by
  unfold ofCell at h
  split at h <;> try (cases h; done)
  all_goals (injection h with h; subst h; refine ⟨rfl, ?_⟩)
  · exact .int _ _ _
  · exact .bool _ _
  · exact .str _ _
  · exact .nilp _
  · exact .nils _
  · exact .nilf _
  · exact .nili _
theorem allInts_eq {k : IntKind} : ∀ {l : List Value} {r : List Int}, allInts k l = some r → l = r.map (Value.int k)
  | [], r, h => by simp [allInts] at h; subst h; rfl
  | x :: l, r, h => by
    cases x <;> simp only [allInts] at h <;> try (cases h; done)
    split at h
    · rename_i e; subst e
      simp only [Option.map_eq_some_iff] at h
      obtain ⟨r', h1, h2⟩ := h
      subst h2
      rw [allInts_eq h1]; rfl
    · cases h
theorem mapM_get {α β : Type} {f : α → Option β} : ∀ {l : List α} {r : List β}, l.mapM f = some r → r.length = l.length ∧ ∀ (j : Nat) (a : α) (b : β), l[j]? = some a → r[j]? = some b → f a = some b
  | [], r, h => by simp at h; subst h; exact ⟨rfl, fun j a b h => by simp at h⟩
  | x :: l, r, h => by
    simp only [List.mapM_cons, Option.bind_eq_bind, Option.bind_eq_some_iff, Option.pure_def, Option.some.injEq] at h
    obtain ⟨y, h1, r', h2, rfl⟩ := h
    obtain ⟨h3, h4⟩ := mapM_get h2
    refine ⟨by simp [h3], fun j a b ha hb => ?_⟩
    cases j with
    | zero => simp at ha hb; subst ha; subst hb; exact h1
    | succ j => exact h4 j a b (by simpa using ha) (by simpa using hb)
theorem ints_rel {k : IntKind} (l : List Int) : CRel m I w ρ (.ints k l) (l.map (Value.int k)) := by
  refine ⟨by simp [C.len], fun j v h => ?_, fun j v x h hx => ?_⟩
  · simp only [C.get, Option.map_eq_some_iff] at h
    obtain ⟨n, _, rfl⟩ := h; rfl
  · simp only [C.get, List.getElem?_map, Option.map_eq_some_iff] at h hx
    obtain ⟨n, hn, rfl⟩ := h
    obtain ⟨n', hn', rfl⟩ := hx
    rw [hn] at hn'; injection hn' with hn'; subst hn'
    exact .int _ _ _
theorem contentOf_rel {l : List Value} {c : C} (h : contentOf l = some c) : CRel m I w ρ c l := by
  have vals : ∀ c, (l.mapM ofCell).map C.vals = some c → CRel m I w ρ c l := by
    intro c h
    simp only [Option.map_eq_some_iff] at h
    obtain ⟨vs, h1, rfl⟩ := h
    obtain ⟨h2, h3⟩ := mapM_get h1
    refine ⟨h2.symm, fun j v hv => ?_, fun j v x hv hx => ?_⟩
    · have hlt : j < l.length := by rw [← h2]; exact C.get_lt hv
      exact (ofCell_rel (m := m) (I := I) (w := w) (ρ := ρ) (h3 j l[j] v (List.getElem?_eq_getElem hlt) hv)).1
    · exact (ofCell_rel (h3 j x v hx hv)).2
  unfold contentOf at h
  split at h
  · injection h with h; subst h
    exact ⟨rfl, fun j v h => by simp [C.get] at h, fun j v x h => by simp [C.get] at h⟩
  · rename_i k n r
    split at h
    · rename_i l' h'
      injection h with h; subst h
      rw [allInts_eq h']
      exact ints_rel l'
    · exact vals _ h
  · exact vals _ h
theorem ofValue_rel (h : ofValue x = some v) : RelV m I w ρ v x := by
  unfold ofValue at h
  split at h
  · rename_i cs
    simp only [Option.map_eq_some_iff] at h
    obtain ⟨c, h1, rfl⟩ := h
    obtain ⟨h2, h3, h4⟩ := contentOf_rel (m := m) (I := I) (w := w) (ρ := ρ) h1
    exact .agg _ _ _ (by simpa using h2) h3 (fun j v x hv hx => h4 j v x hv (by simpa using hx))
  · exact (ofCell_rel h).2

/-! ### contents -/
theorem plC_imp {c d : C} (h : c.isImm = true → d.isImm = true) (hr : RelV m I w (plC d ρ) v x) : RelV m I w (plC c ρ) v x := by
  cases hc : c.isImm
  · have : plC c ρ = ρ := by simp [plC, hc]
    rw [this]; exact plC_to hr
  · have h1 : plC c ρ = noPl := by simp [plC, hc]
    have h2 : plC d ρ = noPl := by simp [plC, h hc]
    rw [h1]; rwa [h2] at hr
theorem get_put_list {α : Type} (l m : List α) (o j : Nat) (h : o + m.length ≤ l.length) :
    (l.take o ++ m ++ l.drop (o + m.length))[j]? = if j < o then l[j]? else if j < o + m.length then m[j - o]? else l[j]? := by
  have ht : (l.take o).length = o := by simp; omega
  split
  · rename_i h1
    rw [List.append_assoc, List.getElem?_append_left (by omega), List.getElem?_take, if_pos h1]
  · rename_i h1
    rw [List.append_assoc, List.getElem?_append_right (by omega), ht]
    split
    · rename_i h2
      rw [List.getElem?_append_left (by omega)]
    · rename_i h2
      rw [List.getElem?_append_right (by omega), List.getElem?_drop]
      congr 1; omega
theorem C.get_put {c d c' : C} {o : Nat} (h : c.put o d = some c') : o + d.len ≤ c.len ∧ c'.len = c.len ∧ (c'.isImm = true → c.isImm = true ∧ d.isImm = true) ∧
    ∀ j, c'.get j = if j < o then c.get j else if j < o + d.len then d.get (j - o) else c.get j := by
  have mapget : ∀ (k : IntKind) (l : List Int) (j : Nat), (l[j]?).map (V.int k) = (C.ints k l).get j := fun _ _ _ => rfl
  cases c with
  | ints k l =>
    cases d <;> simp only [C.put] at h <;> try (cases h; done)
    rename_i k' l'
    split at h <;> try (cases h; done)
    rename_i hc
    obtain ⟨rfl, hc⟩ := hc
    injection h with h; subst h
    refine ⟨hc, by simp [C.len]; omega, fun h => by simp [C.isImm] at h, fun j => ?_⟩
    show ((l.take o ++ l' ++ l.drop (o + l'.length))[j]?).map (V.int k) = if j < o then (l[j]?).map (V.int k) else if j < o + l'.length then (l'[j - o]?).map (V.int k) else (l[j]?).map (V.int k)
    rw [get_put_list l l' o j hc]
    by_cases h1 : j < o
    · rw [if_pos h1, if_pos h1]
    · by_cases h2 : j < o + l'.length
      · rw [if_neg h1, if_neg h1, if_pos h2, if_pos h2]
      · rw [if_neg h1, if_neg h1, if_neg h2, if_neg h2]
  | vals l =>
    simp only [C.put] at h
    split at h <;> try (cases h; done)
    rename_i hc
    injection h with h; subst h
    have hc' : o + d.toL.length ≤ l.length := by rw [C.len_toL]; exact hc
    have hl := C.len_toL d
    refine ⟨hc, by show (List.take o l ++ d.toL ++ List.drop (o + d.len) l).length = l.length; simp only [List.length_append, List.length_take, List.length_drop]; omega, fun h => by simp [C.isImm] at h, fun j => ?_⟩
    have := get_put_list l d.toL o j hc'
    rw [C.len_toL] at this
    show (List.take o l ++ d.toL ++ List.drop (o + d.len) l)[j]? = if j < o then l[j]? else if j < o + d.len then d.get (j - o) else l[j]?
    rw [this]
    repeat' split
    all_goals first | rfl | rw [C.get_toL]
  | imm l =>
    cases d <;> simp only [C.put] at h <;> try (cases h; done)
    rename_i l'
    split at h <;> try (cases h; done)
    rename_i hc
    injection h with h; subst h
    refine ⟨hc, by simp [C.len]; omega, fun _ => ⟨rfl, rfl⟩, fun j => ?_⟩
    exact get_put_list l l' o j hc
theorem CRel.put {c d c' : C} {o : Nat} {xs ys : List Value} (h : c.put o d = some c') (hc : CRel m I w ρ c xs) (hd : CRel m I w ρ d ys) :
    CRel m I w ρ c' (xs.take o ++ ys ++ xs.drop (o + ys.length)) ∧ o + ys.length ≤ xs.length := by
  obtain ⟨h1, h2, h3, h4⟩ := C.get_put h
  have hle : o + ys.length ≤ xs.length := by rw [hd.1, hc.1]; exact h1
  refine ⟨⟨?_, fun j v hv => ?_, fun j v x hv hx => ?_⟩, hle⟩
  · rw [h2, ← hc.1]; simp; omega
  · rw [h4] at hv
    split at hv
    · exact hc.2.1 _ _ hv
    · split at hv
      · exact hd.2.1 _ _ hv
      · exact hc.2.1 _ _ hv
  · rw [h4] at hv
    rw [get_put_list xs ys o j hle, hd.1] at hx
    split at hv
    · rename_i hj; rw [if_pos hj] at hx; exact plC_imp (fun e => (h3 e).1) (hc.2.2 _ _ _ hv hx)
    · rename_i hj
      rw [if_neg hj] at hx
      split at hv
      · rename_i hj2; rw [if_pos hj2] at hx; exact plC_imp (fun e => (h3 e).2) (hd.2.2 _ _ _ hv hx)
      · rename_i hj2; rw [if_neg hj2] at hx; exact plC_imp (fun e => (h3 e).1) (hc.2.2 _ _ _ hv hx)
theorem CRel.of_vals {l : List V} {xs : List Value} (h : CRel m I w ρ (.vals l) xs) (hi : l.all V.idf = true) : CRel m I w ρ (.imm l) xs := by
  refine ⟨h.1, h.2.1, fun j v x hv hx => ?_⟩
  have := h.2.2 j v x hv hx
  exact this.idf (List.all_eq_true.1 hi v (List.mem_of_getElem? hv)) _
theorem CRel.tidied {c : C} {xs : List Value} (h : CRel m I w ρ c xs) : CRel m I w ρ (tidy c) xs := by
  cases c with
  | ints k l => exact h
  | imm l => exact h
  | vals l =>
    simp only [tidy]
    split
    · rename_i hi; exact h.of_vals hi
    · exact h
theorem tidy_len (c : C) : (tidy c).len = c.len := by
  cases c <;> simp only [tidy] <;> try rfl
  split <;> rfl
theorem CRel.one (hv : v.isCell = true) (hx : RelV m I w ρ v x) : CRel m I w ρ (C.one v) [x] := by
  have vals : CRel m I w ρ (.vals [v]) [x] := by
    refine ⟨rfl, fun j u h => ?_, fun j u z h hz => ?_⟩
    · cases j with
      | zero => simp [C.get] at h; subst h; exact hv
      | succ j => simp [C.get] at h
    · cases j with
      | zero => simp [C.get] at h hz; subst h; subst hz; exact hx
      | succ j => simp [C.get] at h
  cases v <;> first | exact vals | skip
  cases hx
  exact ints_rel [_]
theorem cellsC_rel {c : C} (h : v.cellsC = some c) (hx : RelV m I w ρ v x) : CRel m I w ρ c x.cells.toList := by
  cases hx <;> simp only [V.cellsC, Option.some.injEq] at h <;> try (cases h; done)
  case agg c' cs hs hc hf => subst h; exact ⟨by show cs.toList.length = _; simpa using hs, hc, fun j v x hv hx => hf j v x hv (by have : cs.toList[j]? = some x := hx; simpa using this)⟩
  all_goals
    subst h
    refine CRel.one rfl ?_
    constructor <;> assumption
end Go.Proofs.YtgjbkgajkcgdfaaE
