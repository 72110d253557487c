/- append: the machine's runs. -/
import Derived.Test.YtgjbkgajkcgdfaaEvS10
namespace Go.Proofs.YtgjbkgajkcgdfaaE
open Go
set_option linter.unusedSimpArgs false
set_option linter.unusedVariables false
variable {P : Program} {w : World} {m : Nat → Option Nat} {I O : Nat → Prop} {ρ : Pl} {H Hb : List Blk} {p q v : V} {x y : Value} {news : List Blk}

theorem C.app_rel {c d e : C} {xs ys : List Value} (h : c.app d = some e) (hc : CRel m I w ρ c xs) (hd : CRel m I w ρ d ys) : CRel m I w ρ e (xs ++ ys) := by
  have key : ∀ e : C, e.len = c.len + d.len → (e.isImm = true → c.isImm = true ∧ d.isImm = true) → (∀ j, e.get j = if j < c.len then c.get j else d.get (j - c.len)) → CRel m I w ρ e (xs ++ ys) := by
    intro e h1 h2 h3
    refine ⟨by simp [h1, hc.1, hd.1], fun j v hv => ?_, fun j v x hv hx => ?_⟩
    · rw [h3] at hv
      split at hv
      · exact hc.2.1 _ _ hv
      · exact hd.2.1 _ _ hv
    · rw [h3] at hv
      split at hv
      · rename_i hj
        rw [List.getElem?_append_left (by rw [hc.1]; exact hj)] at hx
        exact plC_imp (fun e => (h2 e).1) (hc.2.2 _ _ _ hv hx)
      · rename_i hj
        rw [List.getElem?_append_right (by rw [hc.1]; omega), hc.1] at hx
        exact plC_imp (fun e => (h2 e).2) (hd.2.2 _ _ _ hv hx)
  have key' : ∀ {l l' : List V}, c = .imm l → CRel m I w ρ (.imm l') ys → CRel m I w ρ (.imm (l ++ l')) (xs ++ ys) := by
    intro l l' hcl hd'
    subst hcl
    have h1 : xs.length = l.length := hc.1
    refine ⟨by simp [C.len, hc.1, hd'.1], fun j v hv => ?_, fun j v x hv hx => ?_⟩
    · simp only [C.get] at hv
      by_cases hj : j < l.length
      · rw [List.getElem?_append_left hj] at hv; exact hc.2.1 _ _ hv
      · rw [List.getElem?_append_right (by omega)] at hv; exact hd'.2.1 _ _ hv
    · simp only [C.get] at hv
      by_cases hj : j < l.length
      · rw [List.getElem?_append_left hj] at hv
        rw [List.getElem?_append_left (by omega)] at hx
        exact hc.2.2 _ _ _ hv hx
      · rw [List.getElem?_append_right (by omega)] at hv
        rw [List.getElem?_append_right (by omega), h1] at hx
        exact hd'.2.2 _ _ _ hv hx
  have nilL : ∀ e : C, e.len = 0 → CRel m I w ρ e xs → xs = [] := fun e h1 h2 => List.length_eq_zero_iff.1 (by rw [h2.1, h1])
  have app_get : ∀ {α : Type} (l l' : List α) (j : Nat), (l ++ l')[j]? = if j < l.length then l[j]? else l'[j - l.length]? := by
    intro α l l' j
    split
    · rename_i h; exact List.getElem?_append_left h
    · rename_i h; exact List.getElem?_append_right (by omega)
  have nilR : d.len = 0 → ys = [] := fun h1 => List.length_eq_zero_iff.1 (by rw [hd.1, h1])
  cases c with
  | ints k l =>
    cases d with
    | ints k' l' =>
      simp only [C.app] at h
      split at h <;> try (cases h; done)
      rename_i e; subst e
      injection h with h; subst h
      refine key _ (by simp [C.len]) (fun h => by simp [C.isImm] at h) (fun j => ?_)
      show ((l ++ l')[j]?).map (V.int k) = if j < l.length then (l[j]?).map (V.int k) else (l'[j - l.length]?).map (V.int k)
      rw [app_get]; split <;> rfl
    | vals l' => simp [C.app] at h
    | imm l' =>
      cases l' with
      | nil =>
        simp only [C.app] at h
        injection h with h; subst h
        rw [nilR rfl, List.append_nil]; exact hc
      | cons a r => simp [C.app] at h
  | vals l =>
    simp only [C.app] at h
    injection h with h; subst h
    refine key _ (by simp [C.len, C.len_toL]) (fun h => by simp [C.isImm] at h) (fun j => ?_)
    show (l ++ d.toL)[j]? = if j < l.length then l[j]? else d.get (j - l.length)
    rw [app_get]; split
    · rfl
    · rw [C.get_toL]
  | imm l =>
    cases l with
    | nil =>
      simp only [C.app] at h
      injection h with h; subst h
      rw [nilL _ rfl hc]; exact hd
    | cons a r =>
      cases d with
      | ints k' l' => simp [C.app] at h
      | imm l' =>
        simp only [C.app] at h
        injection h with h; subst h
        refine key _ (by simp [C.len]; omega) (fun _ => ⟨rfl, rfl⟩) (fun j => ?_)
        show (a :: r ++ l')[j]? = if j < (a :: r).length then (a :: r)[j]? else l'[j - (a :: r).length]?
        rw [app_get]
      | vals l' =>
        simp only [C.app] at h
        split at h <;> try (cases h; done)
        rename_i hi
        injection h with h; subst h
        exact key' rfl (hd.of_vals hi)

def isIntD : TypeDesc → Bool
  | .int _ => true
  | _ => false

/-- append that must make room -/
theorem run_append_new {t u ty el : TypeId} {d : TypeDesc} {i : TypeInfo} {zv : Value} {A : Option Addr} {n rc k : Nat} {xs ys : List Value} (hd : P.underlying t = some (.slice el)) (hu : P.underlying u = some d) (hi' : isIntD d = false) (hi : P.info? el = some i) (hz : i.zero = some zv)
    (hlen : ∀ w, (Builtin.lenOf y).run P w = .ok k w) (hy : ∀ w2 : World, w2.heap = w.heap → (Builtin.firstCells i.size k y).run P w2 = .ok ys.toArray w2)
    (hx : ∀ w2 : World, w2.heap = w.heap → (Builtin.firstCells i.size n (.slice A n rc)).run P w2 = .ok xs.toArray w2)
    (hroom : rc < n + k) (hb1 : (n + k) * i.bytes ≤ 2 ^ 40) (hb2 : n + k ≤ 2 ^ 40) :
    ∃ (nc : Nat) (cs : Array Value) (w' : World), n + k ≤ nc ∧ cs.size = xs.length + ys.length + (nc - (n + k)) * zv.cells.size ∧ (∀ (j : Nat) (z : Value), (xs ++ ys)[j]? = some z → cs[j]? = some z) ∧ w'.heap = w.heap.push (.cells cs el (0, 0)) ∧ w'.os = w.os ∧ w'.tape = w.tape ∧ w'.output = w.output ∧
      (Builtin.append_ #[t, u] ty #[.slice A n rc, y]).run P w = .ok (.slice (some ⟨w.heap.size, 0, none⟩) (n + k) nc) w' := by
  have hfit := growslice_fits (need := n + k) (old := rc) (bytes := i.bytes) hroom (by omega)
  have hn : ¬ (n + k ≤ rc) := by omega
  have h63 : ¬ (((n + k : Nat) : Int) > IntKind.i64.max) := by
    have : (IntKind.i64.max : Int) = 2 ^ 63 - 1 := rfl
    rw [this]; omega
  have h48 : ¬ (Builtin.nextslicecap (n + k) rc * i.bytes > 2 ^ 48) := by omega
  let nc := (Question.appendCap (n + k) rc el).cut (w.tape w.drawn (.appendCap (n + k) rc el))
  have hnc : n + k ≤ nc := Nat.le_add_right _ _
  let cs := xs.toArray ++ ys.toArray ++ Builtin.zeroCells zv.cells (nc - (n + k))
  refine ⟨nc, cs, w.drew.alloc (.cells cs el), hnc, by simp [cs, Builtin.zeroCells]; omega, fun j z hj => ?_, rfl, rfl, rfl, rfl, ?_⟩
  · have hlt : j < (xs ++ ys).length := (List.getElem?_eq_some_iff.1 hj).1
    rw [← Array.getElem?_toList]
    simp only [cs, Array.toList_append]
    rw [List.getElem?_append_left (by simpa using hlt)]
    simpa using hj
  · have hdraw : (choose (.appendCap (n + k) rc el)).run P w = .ok nc w.drew := by
      simp [choose, Sem.run, Question.forced, nc]
    have hask : ∀ b (w : World), (askRoom b).run P w = .ok () w := fun b w => by
      unfold askRoom; split <;> rfl
    cases d <;> first | (exfalso; simp [isIntD] at hi'; done) | skip
    all_goals
      simp only [Builtin.append_, List.getElem?_toArray, List.getElem?_cons_zero, List.getElem?_cons_succ, Sem.run_bind, run_und hd, Result.andThen_ok, run_sz hi, run_und hu, Sem.run_pure]
      simp only [Bool.false_eq_true, if_false, hlen, Sem.run_bind, Result.andThen_ok, hn, if_false, h63, false_and, h48, run_tinfo hi]
      simp only [hdraw, Bool.not_false, if_true, Sem.run_bind, hask, Result.andThen_ok, hx w.drew rfl, hy w.drew rfl, run_tinfo hi, run_zero hi hz]
      rfl
end Go.Proofs.YtgjbkgajkcgdfaaE
