/- One operation of the machine, whichever it is. -/
import Derived.Test.YtgjbkgajkcgdfaaEvM
namespace Go.Proofs.YtgjbkgajkcgdfaaE
open Go
set_option linter.unusedSimpArgs false
set_option linter.unusedVariables false
variable {P : Program} {w : World} {m : Nat → Option Nat} {I O : Nat → Prop} {ρ : Pl} {H Hb : List Blk} {v : V} {e : Env} {a : Act} {call : CallF} {own : Nat → Bool}

theorem Grow.gs {n k : Nat} {I' O' : Nat → Prop} {w' : World} {ρ' : Pl} (h : Grow n k I O w ρ I' O' w' ρ') (hi : ∀ k, I k → k < w.heap.size) : GS n I O w ρ I' O' w' ρ' :=
  ⟨h.mono hi, h.ext, fun k hk => (h.imm' k hk).elim .inl (fun h => .inr (.inr h)), h.own', fun i r hr => (h.pl' i r hr).elim .inl (fun h => .inr ⟨h.1, .inr h.2.2⟩)⟩
theorem EG.gs {n : Nat} {O' : Nat → Prop} {w' : World} {ρ' : Pl} (h : EG n I O w ρ O' w' ρ') : GS n I O w ρ I O' w' ρ' :=
  ⟨h.mono, h.ext, fun k hk => .inl hk, h.own', h.pl'⟩

/-- the operation is carried out, and all goes on with this value -/
def Goes (P : Program) (o : Oper) (a : Act) (w : World) (R : Value → World → Prop) : Prop :=
  ∀ (next : Act → World → Prop) (Q : Exit → Act → World → Prop), (∀ x w', R x w' → next (a.put o.dst x) w') → o.wp P a w next Q

theorem goes_value {o : Oper} {x : Value} {w' : World} {R : Value → World → Prop} (h : (execOp a.eval o).run P w = .ok (.value x) w') (hR : R x w') : Goes P o a w R := by
  intro next Q hn
  unfold Oper.wp
  rw [h]
  exact hn _ _ hR
theorem goes_skip {o : Oper} {w' : World} {R : Value → World → Prop} (h : (execOp a.eval o).run P w = .ok .skip w') (hR : R undef w') : Goes P o a w R := by
  intro next Q hn
  unfold Oper.wp
  rw [h]
  exact hn _ _ hR
theorem Goes.mono {o : Oper} {R R' : Value → World → Prop} (h : Goes P o a w R) (hr : ∀ x w', R x w' → R' x w') : Goes P o a w R' :=
  fun next Q hn => h next Q (fun x w' hx => hn x w' (hr x w' hx))

theorem run_enter {f : FuncId} {xs : Array Value} (hb : Body P f) : (callFunc f xs).run P w = .ok (.enter f xs) w := by
  obtain ⟨fn, h1, h2, h3⟩ := hb
  have h4 : (fn.name == "runtime.NumGoroutine") = false := by simpa using h3
  have h5 : fn.body.isNone = false := by cases hh : fn.body <;> simp_all
  unfold callFunc
  have hp : (program).run P w = .ok P w := rfl
  simp only [Sem.run_bind, hp, Result.andThen_ok, h1, h4, h5, Bool.false_eq_true, if_false]
  rfl

theorem goes_call {dst : Option Tmp} {fo : Operand} {xs : Array Operand} {ats : Array TypeId} {ty : TypeId} {pos : String} {af : Array Edge} {g : Option (Nat × Bool)} {f : FuncId} {cs : Array Value} {R : Value → World → Prop}
    (hf : a.eval fo = .func (.func f) #[] cs) (hb : Body P f) (hc : Calls P f (xs.map a.eval ++ cs) w (fun e w' => ∃ x, e = .returned x ∧ R x w')) :
    Goes P ⟨dst, .call ⟨.value fo, xs, ats⟩, ty, pos, af, g⟩ a w R := by
  intro next Q hn
  unfold Oper.wp
  have : (execOp a.eval ⟨dst, .call ⟨.value fo, xs, ats⟩, ty, pos, af, g⟩).run P w = .ok (.enter f (xs.map a.eval ++ cs)) w := by
    show (do let d ← resolve a.eval ⟨.value fo, xs, ats⟩ ty; invoke d.target d.args : Sem Next).run P w = _
    have h1 : (resolve a.eval ⟨.value fo, xs, ats⟩ ty).run P w = .ok { target := .fn (.func f) cs, args := xs.map a.eval } w := by
      show (Deferred.ofValue (a.eval fo) (xs.map a.eval)).run P w = _
      rw [hf]; simp [Deferred.ofValue, pure, Sem.run]
    simp only [Sem.run_bind, h1, Result.andThen_ok]
    exact run_enter hb
  rw [this]
  refine Calls.mono hc (fun e w' he => ?_)
  obtain ⟨x, rfl, hx⟩ := he
  exact hn _ _ hx

theorem operands_call {fo : Operand} {xs : Array Operand} {ats : Array TypeId} : ∀ x, (x = fo ∨ x ∈ xs.toList) → x ∈ (Go.Op.call ⟨.value fo, xs, ats⟩).operands.toList := by
  intro x hx
  simp only [Go.Op.operands, Call.operands]
  rcases hx with rfl | hx <;> simp_all

theorem call_args {fo : Operand} {xs : Array Operand} {ats : Array TypeId} {l : List R} (h : xs.toList.mapM (refOf m) = some l) (he : ORel m I w ρ e a (Go.Op.call ⟨.value fo, xs, ats⟩).operands.toList) {caps : List V} {cs : Array Value} (hs : cs.size = caps.length)
    (hf : ∀ (j : Nat) (v : V) (x : Value), caps[j]? = some v → cs[j]? = some x → RelV m I w ρ v x) : RelVs m I w ρ (l.map (R.ev e) ++ caps) (xs.map a.eval ++ cs).toList := by
  obtain ⟨h1, h2⟩ := mapM_get h
  have hls : l.length = xs.size := by simpa using h1
  have hlen : (l.map (R.ev e)).length = (xs.map a.eval).size := by simp [h1]
  refine ⟨by simp [hs, h1], fun j v x hv hx => ?_⟩
  rw [Array.toList_append] at hx
  rcases Nat.lt_or_ge j l.length with hj | hj
  · rw [List.getElem?_append_left (by simpa using hj)] at hv
    rw [List.getElem?_append_left (by simp only [Array.length_toList, Array.size_map]; omega)] at hx
    simp only [List.getElem?_map, Option.map_eq_some_iff] at hv
    obtain ⟨r, hr, rfl⟩ := hv
    simp only [Array.toList_map, List.getElem?_map, Option.map_eq_some_iff] at hx
    obtain ⟨y, hy, rfl⟩ := hx
    exact refOf_rel (h2 j y r hy hr) he (operands_call _ (.inr (List.mem_of_getElem? hy)))
  · rw [List.getElem?_append_right (by simpa using hj)] at hv
    rw [List.getElem?_append_right (by simp only [Array.length_toList, Array.size_map]; omega)] at hx
    refine hf (j - l.length) v x (by simpa using hv) ?_
    have : (xs.map a.eval).toList.length = l.length := by simp [h1]
    rw [this] at hx
    simpa using hx

end Go.Proofs.YtgjbkgajkcgdfaaE
