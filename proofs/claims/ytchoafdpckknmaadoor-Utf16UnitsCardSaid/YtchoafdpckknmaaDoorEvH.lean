/- Every writing operation. -/
import Derived.Test.YtchoafdpckknmaaDoorEvG
namespace Go.Proofs.YtchoafdpckknmaaDoorE
open Go
set_option linter.unusedSimpArgs false
set_option linter.unusedVariables false
variable {P : Program} {w : World} {m : Nat → Option Nat} {I O : Nat → Prop} {ρ : Pl} {H Hb : List Blk} {v : V} {e : Env} {a : Act}

def EOut (m : Nat → Option Nat) (r : Result Next) (n : Nat) (H' : List Blk) (I O : Nat → Prop) (w : World) (ρ : Pl) (v : V) : Prop :=
 ∃ z w' O' ρ', (r = .ok (.value z) w' ∨ (r = .ok .skip w' ∧ z = undef)) ∧ RelV m I w' ρ' v z ∧ HRel m I O' w' ρ' H' ∧ EG n I O w ρ O' w' ρ'
theorem EPost.out {s : Sem Value} {n : Nat} {H' : List Blk} (h : EPost m P s n H' I O w ρ v) : EOut m ((do pure (Next.value (← s)) : Sem Next).run P w) n H' I O w ρ v := by
 obtain ⟨z, w', O', ρ', h1, h2⟩ := h
 exact ⟨z, w', O', ρ', .inl (run_v h1), h2⟩

/-- noughts all over -/
theorem sound_clr {t ty el : TypeId} {z : TypeInfo × Value × C} {p : V} {x : Value} {H' : List Blk} (hd : P.underlying t = some (.slice el)) (hz : zOf P el = some z) (hH : HRel m I O w ρ H) (hx : RelV m I w ρ p x) (h : evE (.clr z.1.size z.2.2 (.c p)) [] H = some (v, H')) :
  EPost m P (Builtin.clear_ #[t] ty #[x]) H.length H' I O w ρ v := by
 obtain ⟨z1, z2, z3, z4⟩ := zOf_spec hz
 simp only [evE, R.ev] at h
 split at h <;> try (cases h; done)
 rename_i b off len cap sz'
 split at h <;> try (cases h; done)
 rename_i c hb
 split at h <;> try (cases h; done)
 rename_i hc
 obtain ⟨h0, rfl⟩ := hc
 simp only [Option.bind_eq_some_iff, Option.map_eq_some_iff, Prod.mk.injEq] at h
 obtain ⟨d, hrep, c', hp, rfl, rfl⟩ := h
 cases hx with
 | sl0 => omega
 | sl1 _ _ _ _ _ _ r rc n h1 h2 h3 h4 h5 =>
 have hd' := C.rep_rel (m := m) (I := I) (w := w) (ρ := ρ) hrep (contentOf_rel z3)
 obtain ⟨q1, q2, q3, q4⟩ := write_cells hH hb h1 hp hd'
 refine ⟨.tuple #[], _, O, ρ, ?_, .tup _ _ _ rfl (fun j v x hv => by simp at hv), q1, q2⟩
 have hk : (Builtin.zeroCells z.2.1.cells len).toList = (List.replicate len z.2.1.cells.toList).flatten := by
  rcases Nat.eq_zero_or_pos z.2.1.cells.size with h | h
  ·have : z.2.1.cells.toList = [] := by apply List.eq_nil_of_length_eq_zero; simpa using h
   simp [zeroCells_eq, this, h]
  ·rw [zeroCells_eq]; exact rep_get rfl h
 have hst := run_storeCells_cells (P := P) r off (List.replicate len z.2.1.cells.toList).flatten 0 w (by simpa using q3) (fun j hj => by rw [Nat.add_zero]; exact q4 j hj) hd'.oneCell
 simp only [Nat.add_zero] at hst
 obtain ⟨n', rfl⟩ : ∃ n', len = n' + 1 := ⟨len - 1, by omega⟩
 simp only [Builtin.clear_, List.getElem?_toArray, List.getElem?_cons_zero, Sem.run_bind, run_und hd, Result.andThen_ok, run_zero z1 z2, hk, hst, Sem.run_pure]

theorem eff_op {o : Oper} {oc : EOp} {H' : List Blk} (hnc : notCall o.op = true) (hc : compO P m o.op = some oc) (he : ORel m I w ρ e a o.op.operands.toList) (hH : HRel m I O w ρ H)
  (hcv : ∀ s d x r, o.op = .convert s d x → oc ≠ .cvs r) (h : evE oc e H = some (v, H')) : EOut m ((execOp a.eval o).run P w) H.length H' I O w ρ v := by
 obtain ⟨dst, op, type, pos, after, guard⟩ := o
 simp only [] at hnc hc he
 have bad : ∀ {oc' : EOp}, oc = oc' → (∀ v H', evE oc' e H ≠ some (v, H')) → EOut m ((execOp a.eval ⟨dst, op, type, pos, after, guard⟩).run P w) H.length H' I O w ρ v := fun e1 e2 => by
  subst e1; exact absurd h (e2 _ _)
 cases op <;> simp only [compO] at hc <;> try (cases hc; done)
 case panic x => injection hc with hc; subst hc; cases h
 case makeInterface t x => injection hc with hc; subst hc; cases h
 case store t x y =>
  simp only [Option.map_eq_some_iff, Option.bind_eq_some_iff] at hc
  obtain ⟨i, hi, ra, h1, rb, h2, rfl⟩ := hc
  obtain ⟨rfl, w', O', ρ', k1, k2, k3⟩ := sound_stc (P := P) hi hH (refOf_rel h1 he (by simp [Op.operands])) (refOf_rel h2 he (by simp [Op.operands])) h
  refine ⟨undef, w', O', ρ', .inr ⟨?_, rfl⟩, .tup _ _ _ rfl (fun j v x hv => by simp at hv), k2, k3⟩
  simp [execOp, k1, pure, Sem.run]
 case next x b =>
  cases b <;> simp only [compO] at hc <;> try (cases hc; done)
  simp only [Option.map_eq_some_iff] at hc
  obtain ⟨r, h1, rfl⟩ := hc
  exact (sound_nxt (P := P) (ty := type) hH (refOf_rel h1 he (by simp [Op.operands])) h).out
 case call c =>
  obtain ⟨callee, args, ts⟩ := c
  cases callee <;> simp only [] at hc <;> try (cases hc; done)
  ·simp [notCall] at hnc
  ·rename_i b
   have hrun : (execOp a.eval ⟨dst, .call ⟨.builtin b, args, ts⟩, type, pos, after, guard⟩).run P w = (builtin b ts type (args.map fun | .const _ => true | _ => false) (args.map a.eval)).run P w := by
    simp only [execOp, resolve, Sem.run_bind, Sem.run_pure, Result.andThen_ok, invoke]
    rfl
   rw [hrun]
   have he' : ORel m I w ρ e a args.toList := fun t ht => he t (by simpa [Op.operands, Call.operands] using ht)
   unfold compBuiltin at hc
   split at hc <;> try (cases hc; done)
   ·-- len
    repeat' split at hc
    all_goals first
     | (cases hc; done)
     | (simp only [Option.map_eq_some_iff] at hc; obtain ⟨_, _, rfl⟩ := hc; simp [evE] at h; done)
     | (simp only [Option.some.injEq] at hc; subst hc; simp [evE] at h; done)
   ·-- cap
    split at hc <;> try (cases hc; done)
    simp only [Option.map_eq_some_iff] at hc; obtain ⟨_, _, rfl⟩ := hc; simp [evE] at h
   ·simp only [Option.map_eq_some_iff] at hc; obtain ⟨_, _, rfl⟩ := hc; simp [evE] at h
   ·simp only [Option.map_eq_some_iff] at hc; obtain ⟨_, _, rfl⟩ := hc; simp [evE] at h
   ·rename_i t u x y hts hxs
    have ets : ts = #[t, u] := by apply Array.ext'; simpa using hts
    have exs : args = #[x, y] := by apply Array.ext'; simpa using hxs
    subst ets; subst exs
    split at hc <;> try (cases hc; done)
    rename_i el d hd hu
    split at hc
    ·simp only [Option.bind_eq_some_iff, Option.map_eq_some_iff] at hc
     obtain ⟨_, _, _, _, _, _, rfl⟩ := hc
     simp [evE] at h
    rename_i hnd
    simp only [Option.bind_eq_some_iff, Option.map_eq_some_iff] at hc
    obtain ⟨z, hz, ra, h1, rb, h2, rfl⟩ := hc
    obtain ⟨z1, z2, z3, z4⟩ := zOf_spec hz
    have em : (#[x, y] : Array Operand).map a.eval = #[a.eval x, a.eval y] := by simp
    show EOut m ((do pure (Next.value (← Builtin.append_ #[t, u] type (#[x, y].map a.eval))) : Sem Next).run P w) _ _ _ _ _ _ _
    rw [em]
    exact (sound_appE hd hu (by simpa using hnd) z1 z2 z4 hH (refOf_rel h1 he' (by simp)) (refOf_rel h2 he' (by simp)) h).out
   ·rename_i t u x y hts hxs
    have ets : ts = #[t, u] := by apply Array.ext'; simpa using hts
    have exs : args = #[x, y] := by apply Array.ext'; simpa using hxs
    subst ets; subst exs
    split at hc <;> try (cases hc; done)
    rename_i el hd
    simp only [Option.bind_eq_some_iff, Option.map_eq_some_iff] at hc
    obtain ⟨i, hi, ra, h1, rb, h2, rfl⟩ := hc
    have em : (#[x, y] : Array Operand).map a.eval = #[a.eval x, a.eval y] := by simp
    show EOut m ((do pure (Next.value (← Builtin.copy_ #[t, u] type (#[x, y].map a.eval))) : Sem Next).run P w) _ _ _ _ _ _ _
    rw [em]
    exact (sound_cpy hd hi hH (refOf_rel h1 he' (by simp)) (refOf_rel h2 he' (by simp)) h).out
   ·rename_i t x hts hxs
    have ets : ts = #[t] := by apply Array.ext'; simpa using hts
    have exs : args = #[x] := by apply Array.ext'; simpa using hxs
    subst ets; subst exs
    split at hc <;> try (cases hc; done)
    rename_i el hd
    simp only [Option.bind_eq_some_iff, Option.map_eq_some_iff] at hc
    obtain ⟨z, hz, ra, h1, rfl⟩ := hc
    have em : (#[x] : Array Operand).map a.eval = #[a.eval x] := by simp
    show EOut m ((do pure (Next.value (← Builtin.clear_ #[t] type (#[x].map a.eval))) : Sem Next).run P w) _ _ _ _ _ _ _
    rw [em]
    exact (sound_clr hd hz hH (refOf_rel h1 he' (by simp)) h).out
 case binOp op t x y yt =>
  simp only [Option.bind_eq_some_iff] at hc
  obtain ⟨ra, h1, rb, h2, hc⟩ := hc
  split at hc
  ·simp only [Option.bind_eq_some_iff] at hc
   obtain ⟨d, hd, hc⟩ := hc
   split at hc
   ·injection hc with hc; subst hc; simp [evE] at h
   ·injection hc with hc; subst hc; simp [evE] at h
   ·split at hc
    ·injection hc with hc; subst hc; simp [evE] at h
    ·split at hc <;> try (cases hc; done)
     simp only [Option.map_eq_some_iff] at hc
     obtain ⟨_, _, rfl⟩ := hc; simp [evE] at h
  ·injection hc with hc; subst hc; simp [evE] at h
 case slice t x lo hi mx =>
  simp only [Option.bind_eq_some_iff] at hc
  obtain ⟨r, h1, l, h2, k, h3, k', h4, hc⟩ := hc
  split at hc <;> try (cases hc; done)
  ·split at hc <;> try (cases hc; done)
   injection hc with hc; subst hc; simp [evE] at h
  ·simp only [Option.map_eq_some_iff] at hc
   obtain ⟨_, _, rfl⟩ := hc; simp [evE] at h
  ·simp only [Option.map_eq_some_iff] at hc
   obtain ⟨_, _, rfl⟩ := hc; simp [evE] at h
 case makeFunc fn first caps =>
  cases fn <;> simp only [compO] at hc <;> try (cases hc; done)
  split at hc <;> try (cases hc; done)
  simp only [Option.map_eq_some_iff, Option.bind_eq_some_iff] at hc
  obtain ⟨_, _, _, _, rfl⟩ := hc; simp [evE] at h
 case load t x =>
  split at hc <;> try (cases hc; done)
  split at hc
  ·simp only [Option.map_eq_some_iff, Option.bind_eq_some_iff] at hc
   obtain ⟨_, _, _, _, rfl⟩ := hc; simp [evE] at h
  ·simp only [Option.map_eq_some_iff] at hc
   obtain ⟨_, _, rfl⟩ := hc; simp [evE] at h
 case convert s d x =>
  split at hc <;> try (cases hc; done)
  ·simp only [Option.map_eq_some_iff] at hc
   obtain ⟨_, _, rfl⟩ := hc; simp [evE] at h
  ·split at hc <;> try (cases hc; done)
   simp only [Option.map_eq_some_iff] at hc
   obtain ⟨_, _, rfl⟩ := hc; simp [evE] at h
  ·split at hc <;> try (cases hc; done)
   simp only [Option.map_eq_some_iff] at hc
   obtain ⟨_, _, rfl⟩ := hc; simp [evE] at h
  ·split at hc <;> try (cases hc; done)
   split at hc <;> try (cases hc; done)
   simp only [Option.map_eq_some_iff] at hc
   obtain ⟨r, h1, rfl⟩ := hc
   exact absurd rfl (hcv _ _ _ r rfl)
 case fieldAddr s x k =>
  split at hc <;> try (cases hc; done)
  simp only [Option.bind_eq_some_iff] at hc
  obtain ⟨f, hf, i, hi, hc⟩ := hc
  split at hc <;> try (cases hc; done)
  simp only [Option.map_eq_some_iff] at hc
  obtain ⟨_, _, rfl⟩ := hc; simp [evE] at h
 all_goals
  try (split at hc <;> try (cases hc; done))
 all_goals
  simp only [Option.bind_eq_some_iff, Option.map_eq_some_iff] at hc
  first
  | (obtain ⟨_, _, rfl⟩ := hc; simp [evE] at h; done)
  | (obtain ⟨_, _, _, _, rfl⟩ := hc; simp [evE] at h; done)
  | (obtain ⟨_, _, _, _, _, _, rfl⟩ := hc; simp [evE] at h; done)
  | (obtain ⟨_, _, _, _, _, _, _, _, rfl⟩ := hc; simp [evE] at h; done)
end Go.Proofs.YtchoafdpckknmaaDoorE
