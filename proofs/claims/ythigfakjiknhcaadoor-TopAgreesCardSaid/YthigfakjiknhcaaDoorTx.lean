/- A password leaks; a run begins. -/
import Derived.Test.YthigfakjiknhcaaDoorTw
namespace Go.Proofs.YthigfakjiknhcaaDoorT
open Go Go.Proofs Go.RowKit
set_option linter.unusedSimpArgs false
set_option linter.unusedVariables false
def WW (n0 : Nat) (w : World) (b : Nat) (σ : St) : Prop := ∃ kb vs vr ps pr, WX n0 w b kb vs vr ps pr σ
/-- rows of events lie on -/
def K29 (w w' : World) : Prop := ∀ (i : Nat) (cs : Array Value) (fr : Nat × Nat), w.heap[i]? = some (.cells cs 29 fr) → w'.heap[i]? = some (.cells cs 29 fr)
structure BQ (n0 : Nat) (w w' : World) : Prop where
  b : Below n0 w w'
  q : K29 w w'
theorem BQ.trans {n0 : Nat} {w w1 w2 : World} (h : BQ n0 w w1) (k : BQ n0 w1 w2) : BQ n0 w w2 := ⟨h.b.trans k.b, fun i cs fr hi => k.q i cs fr (h.q i cs fr hi)⟩
theorem BQ.size {n0 : Nat} {w w1 : World} (h : BQ n0 w w1) : w.heap.size ≤ w1.heap.size := h.b.size
theorem _root_.Go.RowKit.Below.up {n0 : Nat} {w w' : World} (h : Below w.heap.size w w') (hn : n0 ≤ w.heap.size) : BQ n0 w w' := ⟨h.mono hn, fun i cs fr hi => by rw [h.block i (Array.getElem?_eq_some_iff.1 hi).1]; exact hi⟩
theorem KB.q29 {b : Nat} {w w' : World} (k : KB b w w') {cs : Array Value} {T : TypeId} {fr : Nat × Nat} (h : w.heap[b]? = some (.cells cs T fr)) (hT : T ≠ 29) : K29 w w' := fun i cs' fr' hi => k.at hi fun e => by
  subst e
  rw [h] at hi
  cases hi
  exact hT rfl
theorem WX.kbq {n0 : Nat} {w w' : World} {b kb : Nat} {vs vr : Value} {ps pr : List Nat} {σ : St} (h : WX n0 w b kb vs vr ps pr σ) (k : KB b w w') : BQ n0 w w' :=
  ⟨⟨k.os, k.tape, k.output, k.size, fun i hi => k.block i (by have := h.ln; omega) (by have := h.lb; omega)⟩, k.q29 h.blk (by decide)⟩
/-- what an event comes to -/
structure TP (n0 : Nat) (w : World) (b : Nat) (o : Bool × St) (e : Ending) (w' : World) : Prop where
  e : e = .returned (.bool o.1)
  x : WW n0 w' b o.2
  bl : BQ n0 w w'
theorem KB.below_of {b n0 : Nat} {w w' : World} (k : KB b w w') (h : n0 ≤ b) (hn : n0 ≤ w.heap.size) : Below n0 w w' := ⟨k.os, k.tape, k.output, k.size, fun i hi => k.block i (by omega) (by omega)⟩
def leaksF (σ : St) (u : Int) : Bool × St :=
  if userB u && sayB σ [some (pwT u.toNat)] then (true, { sayS σ [some (pwT u.toNat)] with lk := fun i => if i = u.toNat then true else (sayS σ [some (pwT u.toNat)]).lk i }) else (false, σ)
theorem sayS_lk (σ : St) (ts : List (Option Tm)) : (sayS σ ts).lk = σ.lk := by unfold sayS; split <;> rfl
theorem sayS_no {σ : St} {ts : List (Option Tm)} (h : sayB σ ts = false) : sayS σ ts = σ := by
  unfold sayB at h
  unfold sayS
  cases hs : sayO σ.ks ts with
  | none => rfl
  | some k => rw [hs] at h; cases h
theorem WX.setL {n0 : Nat} {w : World} {b kb : Nat} {vs vr : Value} {ps pr : List Nat} {σ : St} (h : WX n0 w b kb vs vr ps pr σ) (u : Nat) (hu : u < 4) :
    WX n0 (w.setCell ⟨b, 3 + u, none⟩ (.bool true)) b kb vs vr ps pr { σ with lk := fun i => if i = u then true else σ.lk i } ∧ KB b w (w.setCell ⟨b, 3 + u, none⟩ (.bool true)) := by
  have k : KB b w (w.setCell ⟨b, 3 + u, none⟩ (.bool true)) := ⟨rfl, rfl, rfl, by simp [World.setCell], fun i hi hne => Below.heap_setCell _ _ _ _ hne⟩
  have r := h.kb k
  have hb := h.blk
  refine ⟨⟨?_, h.st.kb k ?_ ?_, r.s, r.r, r.se, r.re, h.nd, h.ne, h.lb, h.lp, Nat.le_trans h.ln k.size⟩, k⟩
  · match u, hu with
    | 0, _ | 1, _ | 2, _ | 3, _ => simp [World.setCell, Array.getElem?_modify, hb]
  · intro e
    subst e
    obtain ⟨m, h1, _⟩ := h.st
    rw [hb] at h1
    cases h1
  · intro es c e
    rw [hb] at e
    cases e
theorem WX.cellL {n0 : Nat} {w : World} {b kb : Nat} {vs vr : Value} {ps pr : List Nat} {σ : St} (h : WX n0 w b kb vs vr ps pr σ) (u : Nat) (hu : u < 4) : w.cell? ⟨b, 3 + u, none⟩ = some (.bool (σ.lk u)) := by
  rw [cell_at h.blk]
  match u, hu with
  | 0, _ | 1, _ | 2, _ | 3, _ => rfl
theorem RLO_one {w : World} {a : Option Tm} {x : Value} (ha : RO w a x) : RLO (w.alloc (.cells #[x] 47)) [a] w.heap.size := RLO.one ha
set_option maxHeartbeats 8000000 in
set_option maxRecDepth 1000000 in
theorem leaks_any {n0 : Nat} {w : World} {b : Nat} {σ : St} (h : WW n0 w b σ) (u : Int) : Calls Tryd.prog 24 #[.pointer (some ⟨b, 0, none⟩), .int .i64 u] w (TP n0 w b (leaksF σ u)) := by
  obtain ⟨kb, vs, vr, ps, pr, h⟩ := h
  have h26 := user_any u w
  cases hu : userB u with
  | false =>
    have he : leaksF σ u = (false, σ) := by unfold leaksF; rw [hu]; rfl
    rw [he]
    rw [hu] at h26
    go_enter Tryd.func24, Tryd.ntmps24
    go_wp2_with (go_at_call 26; refine Calls.mono h26 (fun e w1 hp => ?_); obtain ⟨rfl, rfl⟩ := hp)
    go_ret
    exact ⟨rfl, ⟨_, _, _, _, _, h⟩, (Below.refl _ _).up h.ln⟩
  | true =>
    rw [hu] at h26
    obtain ⟨k, hk, rfl⟩ : ∃ k : Nat, k < 4 ∧ u = k := by
      simp only [userB, Bool.and_eq_true, decide_eq_true_eq] at hu
      exact ⟨u.toNat, by omega, by omega⟩
    have he : leaksF σ ((k : Nat) : Int) = if sayB σ [some (pwT k)] then (true, { sayS σ [some (pwT k)] with lk := fun i => if i = k then true else (sayS σ [some (pwT k)]).lk i }) else (false, σ) := by unfold leaksF; rw [hu, Int.toNat_natCast, Bool.true_and]
    rw [he]
    have h44 := pw_any k (by omega) w
    have hpg := pw_goodO k (by omega)
    have hx1 : ∀ v, WX n0 (w.alloc (.cells #[v] 47)) b kb vs vr ps pr σ := fun v => h.below (al_below _ _)
    have hb1 : ∀ v, BQ n0 w (w.alloc (.cells #[v] 47)) := fun v => (al_below _ _).up h.ln
    generalize hP : pwT k = P at *
    have h36 : ∀ v, RO w (some P) v → _ := fun v hv => say_any (hx1 v) (RLO_one hv) (fun o ho => by simp at ho; subst ho; exact hpg) (by simp) (by simp)
    cases hs : sayB σ [some P] with
    | false =>
      rw [if_neg (by simp)]
      rw [hs, sayS_no hs] at h36
      go_enter Tryd.func24, Tryd.ntmps24
      go_wp2_with (go_at_call 26; refine Calls.mono h26 (fun e w1 hp => ?_); obtain ⟨rfl, rfl⟩ := hp)
      go_wp2_with (go_at_call 44; refine Calls.mono h44 (fun e w1 hp => ?_); obtain ⟨⟨v, rfl, hv⟩, rfl⟩ := hp; have h36' := h36 v hv; obtain ⟨D, u, rfl⟩ := RT.shape hv)
      go_wp2_with (go_at_call 36; refine Calls.mono h36' (fun e w2 hp => ?_); obtain ⟨rfl, ⟨kb', hx⟩, k2⟩ := hp)
      go_ret
      exact ⟨rfl, ⟨_, _, _, _, _, hx⟩, (hb1 _).trans ((hx1 _).kbq k2)⟩
    | true =>
      rw [if_pos rfl]
      rw [hs] at h36
      have hku : ((k : Nat) : Int) < 4 := by omega
      have hk0 : (0 : Int) ≤ ((k : Nat) : Int) := by omega
      go_enter Tryd.func24, Tryd.ntmps24
      go_wp2_with (go_at_call 26; refine Calls.mono h26 (fun e w1 hp => ?_); obtain ⟨rfl, rfl⟩ := hp)
      go_wp2_with (go_at_call 44; refine Calls.mono h44 (fun e w1 hp => ?_); obtain ⟨⟨v, rfl, hv⟩, rfl⟩ := hp; have h36' := h36 v hv; obtain ⟨D, u, rfl⟩ := RT.shape hv)
      go_wp2_with (go_at_call 36; refine Calls.mono h36' (fun e w2 hp => ?_); obtain ⟨rfl, ⟨kb', hx⟩, k2⟩ := hp; have cL := hx.cellL k hk; have fL := hx.free (3 + k) (by omega); obtain ⟨q1, q2⟩ := hx.setL k hk)
      go_ret
      exact ⟨rfl, ⟨_, _, _, _, _, q1⟩, (hb1 _).trans ((hx1 _).kbq (k2.trans q2))⟩
end Go.Proofs.YthigfakjiknhcaaDoorT
