/- Every quiet operation, assembled. -/
import Derived.Test.YtchoafdpckknmaaDoorEvT
namespace Go.Proofs.YtchoafdpckknmaaDoorE
open Go
set_option linter.unusedSimpArgs false
set_option linter.unusedVariables false
variable {P : Program} {w : World} {m : Nat → Option Nat} {I O : Nat → Prop} {ρ : Pl} {H Hb : List Blk} {v : V} {news : List Blk} {e : Env} {a : Act}

theorem run_guard {op : BinOp} {t : TypeId} {xo yo : Operand} {x y : Value} (h : ¬ (op = .eql ∨ op = .neq)) : (eqGuard op t xo yo x y).run P w = .ok () w := by
 cases op <;> first | rfl | (exfalso; simp at h)
theorem run_binG {op : BinOp} {t : TypeId} {xo yo : Operand} {x y z : Value} (h1 : (eqGuard op t xo yo x y).run P w = .ok () w) (h2 : (binOp op t x y).run P w = .ok z w) :
  (do eqGuard op t xo yo x y; binOp op t x y : Sem Value).run P w = .ok z w := by
 simp only [Sem.run_bind, h1, Result.andThen_ok, h2]

theorem builtin_len {ty : TypeId} {ts : Array TypeId} {consts : Array Bool} {xs : Array Value} : builtin .len ts ty consts xs = (do pure (Next.value (← Builtin.len_ ts ty xs)) : Sem Next) := rfl

theorem quiet_builtin {b : Builtin} {ts : Array TypeId} {xs : Array Operand} {ty : TypeId} {consts : Array Bool} {o : EOp} (hc : compBuiltin P m b ts xs = some o) (he : ORel m I w ρ e a xs.toList) (hp : ∀ (i : Nat) (b : Blk), H[i]? = some b → Hb[i]? = some b) (hH : HRel m I O w ρ Hb)
  (h : evQ o e H = some (v, news)) (hb : ∀ (j : Nat) (b : Blk), news[j]? = some b → Hb[H.length + j]? = some b) (hn : ∀ j, j < news.length → ρ (H.length + j) = none) :
  QOut m ((builtin b ts ty consts (xs.map a.eval)).run P w) H.length news.length Hb I O w ρ v := by
 unfold compBuiltin at hc
 split at hc <;> try (cases hc; done)
 ·rename_i t x hts hxs
  have ets : ts = #[t] := by apply Array.ext'; simpa using hts
  have exs : xs = #[x] := by apply Array.ext'; simpa using hxs
  subst ets; subst exs
  have hx : x ∈ (#[x] : Array Operand).toList := by simp
  show QOut m ((do pure (Next.value (← Builtin.len_ #[t] ty (#[x].map a.eval))) : Sem Next).run P w) _ _ _ _ _ _ _ _
  have em : (#[x] : Array Operand).map a.eval = #[a.eval x] := by simp
  rw [em]
  split at hc <;> try (cases hc; done)
  ·rename_i hd
   simp only [Option.map_eq_some_iff] at hc
   obtain ⟨r, h1, rfl⟩ := hc
   exact out_same hH (sound_len (H := H) hd (.inl ⟨rfl, rfl⟩) (refOf_rel h1 he hx) h)
  ·rename_i el hd
   simp only [Option.map_eq_some_iff] at hc
   obtain ⟨r, h1, rfl⟩ := hc
   exact out_same hH (sound_len (H := H) hd (.inr ⟨_, rfl, rfl⟩) (refOf_rel h1 he hx) h)
  ·rename_i n el hd
   simp only [Option.some.injEq] at hc
   subst hc
   simp only [evQ, Option.some.injEq, Prod.mk.injEq] at h
   obtain ⟨rfl, rfl⟩ := h
   exact out_same hH ⟨rfl, sound_lenc hd (.inl rfl) _⟩
  ·rename_i pa hd
   split at hc <;> try (cases hc; done)
   rename_i n el hd'
   simp only [Option.some.injEq] at hc
   subst hc
   simp only [evQ, Option.some.injEq, Prod.mk.injEq] at h
   obtain ⟨rfl, rfl⟩ := h
   exact out_same hH ⟨rfl, sound_lenc hd (.inr ⟨_, rfl, hd'⟩) _⟩
 ·-- cap
  rename_i t x hts hxs
  have ets : ts = #[t] := by apply Array.ext'; simpa using hts
  have exs : xs = #[x] := by apply Array.ext'; simpa using hxs
  subst ets; subst exs
  have hx : x ∈ (#[x] : Array Operand).toList := by simp
  show QOut m ((do pure (Next.value (← Builtin.cap_ #[t] ty (#[x].map a.eval))) : Sem Next).run P w) _ _ _ _ _ _ _ _
  have em : (#[x] : Array Operand).map a.eval = #[a.eval x] := by simp
  rw [em]
  split at hc <;> try (cases hc; done)
  rename_i el hd
  simp only [Option.map_eq_some_iff] at hc
  obtain ⟨r, h1, rfl⟩ := hc
  exact out_same hH (sound_cap (H := H) hd (refOf_rel h1 he hx) h)
 all_goals first
  | (-- min, max
    rename_i xl
    simp only [Option.map_eq_some_iff] at hc
    obtain ⟨rs, h1, rfl⟩ := hc
    obtain ⟨hl, hr⟩ := mapM_rel he h1 (fun x hx => hx)
    simp only [evQ] at h
    cases hrs : rs.map (R.ev e) with
    | nil => rw [hrs] at h; cases h
    | cons p ps =>
     rw [hrs] at h hr
     simp only [] at h
     cases p <;> simp only [] at h <;> try (cases h; done)
     rename_i k n
     simp only [Option.map_eq_some_iff, Prod.mk.injEq] at h
     obtain ⟨v', hm, rfl, rfl⟩ := h
     have hlen : xs.toList.length = ps.length + 1 := by
      have : (rs.map (R.ev e)).length = ps.length + 1 := by rw [hrs]; rfl
      rw [List.length_map] at this; omega
     cases hxl : xs.toList with
     | nil => rw [hxl] at hlen; simp at hlen
     | cons x0 xr =>
      rw [hxl] at hr hlen
      obtain ⟨z, hz, hrel⟩ := sound_mm (P := P) (w := w) _ ps _ _ (a.eval x0) (xr.map a.eval) hm ⟨_, _, rfl⟩ (hr 0 _ _ rfl rfl) (by simp at hlen ⊢; omega) (fun j p x h1 h2 => hr (j + 1) p x (by simpa using h1) (by simpa using h2))
      refine out_same hH ⟨rfl, z, ?_, hrel⟩
      simp only [Builtin.min_, Builtin.max_, Array.toList_map, hxl, List.map_cons]
      simpa using hz)
  | skip
 ·rename_i t u x y hts hxs
  have ets : ts = #[t, u] := by apply Array.ext'; simpa using hts
  have exs : xs = #[x, y] := by apply Array.ext'; simpa using hxs
  subst ets; subst exs
  split at hc <;> try (cases hc; done)
  rename_i el d hd hu
  split at hc
  ·simp only [Option.bind_eq_some_iff, Option.map_eq_some_iff] at hc
   obtain ⟨_, _, _, _, _, _, rfl⟩ := hc
   simp [evQ] at h
  rename_i hnd
  simp only [Option.bind_eq_some_iff, Option.map_eq_some_iff] at hc
  obtain ⟨z, hz, ra, h1, rb, h2, rfl⟩ := hc
  obtain ⟨z1, z2, z3, z4⟩ := zOf_spec hz
  have em : (#[x, y] : Array Operand).map a.eval = #[a.eval x, a.eval y] := by simp
  show QOut m ((do pure (Next.value (← Builtin.append_ #[t, u] ty (#[x, y].map a.eval))) : Sem Next).run P w) _ _ _ _ _ _ _ _
  rw [em]
  have hn1 : news.length = 1 := by
   simp only [evQ, Option.bind_eq_some_iff] at h
   obtain ⟨_, _, h⟩ := h
   try simp only [] at h
   split at h <;> try (cases h; done)
   all_goals
    split at h <;> try (cases h; done)
    simp only [Option.bind_eq_some_iff, Option.map_eq_some_iff, Option.some.injEq, Prod.mk.injEq] at h
    first
     | (obtain ⟨_, h⟩ := h; rw [← h]; rfl)
     | (obtain ⟨_, _, _, _, _, h⟩ := h; rw [← h]; rfl)
  exact (sound_app hd hu (by simpa using hnd) z1 z2 z4 hp hH (refOf_rel h1 he (by simp)) (refOf_rel h2 he (by simp)) h hb (by simpa using hn 0 (by omega))).out
 ·-- copy is not quiet
  split at hc <;> try (cases hc; done)
  simp only [Option.bind_eq_some_iff, Option.map_eq_some_iff] at hc
  obtain ⟨_, _, _, _, _, _, rfl⟩ := hc
  simp [evQ] at h
 ·-- clear is not quiet
  split at hc <;> try (cases hc; done)
  simp only [Option.bind_eq_some_iff, Option.map_eq_some_iff] at hc
  obtain ⟨_, _, _, _, rfl⟩ := hc
  simp [evQ] at h
end Go.Proofs.YtchoafdpckknmaaDoorE
