/- More fuel, the same answer; rules for runs. -/
import Derived.Test.YtchoafdpckknmaaDoorEvCm
namespace Go.Proofs.YtchoafdpckknmaaDoorE
open Go
set_option linter.unusedSimpArgs false
set_option linter.unusedVariables false
variable {F : Nat → Option Fun} {X : Nat → List V → Option (V × List Blk)} {own : Nat → Mode} {n0 : Nat}

def CallLe (c c' : CallF) : Prop := ∀ g xs H r, c g xs H = some r → c' g xs H = some r

theorem callEv_mono {c c' : CallF} (h : CallLe c c') {f : V} {xs : List V} {H : List Blk} {r : V × List Blk × Bool} (hr : callEv c own f xs H = some r) : callEv c' own f xs H = some r := by
 cases f <;> try (cases hr; done)
 rename_i g caps
 simp only [callEv] at hr ⊢
 cases hash : (own g).ash with
 | some S =>
  rw [hash] at hr
  simp only [callT, Option.bind_eq_some_iff] at hr ⊢
  obtain ⟨ys, h1, p, h2, h3⟩ := hr
  exact ⟨ys, h1, p, h _ _ _ _ h2, h3⟩
 | none =>
 rw [hash] at hr
 simp only [Option.bind_eq_some_iff] at hr ⊢
 obtain ⟨zs, h1, Hc, h2, p, h3, h4⟩ := hr
 exact ⟨zs, h1, Hc, h2, p, h _ _ _ _ h3, h4⟩
theorem evOp_mono {c c' : CallF} (h : CallLe c c') {o : EOp} {e : Env} {H : List Blk} {r : V × List Blk × Bool} (hr : evOp c own o e H = some r) : evOp c' own o e H = some r := by
 cases o <;> first | exact hr | exact callEv_mono h hr
theorem evOps_mono {c c' : CallF} (h : CallLe c c') {bar : Nat → Bool} : ∀ {ops : List Op} {i : Nat} {e : Env} {H : List Blk} {r : Env × List Blk}, evOps c own bar i ops e H = some r → evOps c' own bar i ops e H = some r
 | [], i, e, H, r, hr => hr
 | o :: ops, i, e, H, r, hr => by
  simp only [evOps] at hr ⊢
  cases hw : wants e o.guard with
  | none => rw [hw] at hr; cases hr
  | some b =>
   cases b with
   | false => rw [hw] at hr; exact evOps_mono h hr
   | true =>
    rw [hw] at hr
    simp only [] at hr ⊢
    cases ho : evOp c own o.o e H with
    | none => rw [ho] at hr; cases hr
    | some p =>
     rw [ho] at hr
     rw [evOp_mono h ho]
     obtain ⟨v, H', q⟩ := p
     simp only [] at hr ⊢
     split at hr
     ·rename_i hc; rw [if_pos hc]; exact evOps_mono h hr
     ·cases hr
theorem ev_mono {c c' : CallF} (h : CallLe c c') : ∀ {n n' : Nat} {k : K} {s : St} {r : Ex × St}, n ≤ n' → ev c own n0 n k s = some r → ev c' own n0 n' k s = some r := by
 intro n
 induction n with
 | zero => intro n' k s r _ hr; simp [ev] at hr
 | succ n ih =>
  intro n' k s r hn hr
  obtain ⟨m, rfl⟩ : ∃ m, n' = m + 1 := ⟨n' - 1, by omega⟩
  have hm : n ≤ m := by omega
  cases k with
  | skip => exact hr
  | label l => exact hr
  | exit id => exact hr
  | goto l => exact hr
  | ret => exact hr
  | bad => exact hr
  | region ops d =>
   simp only [ev, Option.map_eq_some_iff] at hr ⊢
   obtain ⟨p, h1, h2⟩ := hr
   exact ⟨p, evOps_mono h h1, h2⟩
  | seq a b =>
   simp only [ev] at hr ⊢
   cases ha : ev c own n0 n a s with
   | none => rw [ha] at hr; cases hr
   | some p =>
    obtain ⟨x, s1⟩ := p
    rw [ha] at hr
    rw [ih hm ha]
    cases x with
    | norm => exact ih hm hr
    | _ => exact hr
  | cond cr a b =>
   simp only [ev] at hr ⊢
   cases hc : cr.ev s.1 with
   | bool t =>
    rw [hc] at hr
    cases t <;> exact ih hm hr
   | _ => rw [hc] at hr; cases hr
  | block id b =>
   simp only [ev] at hr ⊢
   cases hb : ev c own n0 n b s with
   | none => rw [hb] at hr; cases hr
   | some p =>
    obtain ⟨x, s1⟩ := p
    rw [hb] at hr
    rw [ih hm hb]
    cases x <;> exact hr
  | loop kp b =>
   simp only [ev] at hr ⊢
   cases hs : trim n0 kp s with
   | none => rw [hs] at hr; cases hr
   | some s0 =>
    rw [hs] at hr
    simp only [] at hr ⊢
    cases hb : ev c own n0 n b s0 with
    | none => rw [hb] at hr; cases hr
    | some p =>
     obtain ⟨x, s1⟩ := p
     rw [hb] at hr
     rw [ih hm hb]
     cases x with
     | norm => exact ih hm hr
     | _ => exact hr
  | pre t b =>
   simp only [ev] at hr ⊢
   cases hs : trim n0 t s with
   | none => rw [hs] at hr; cases hr
   | some s0 => rw [hs] at hr; exact ih hm hr
  | scope b =>
   simp only [ev] at hr ⊢
   exact ih hm hr
  | rsm x b =>
   simp only [ev] at hr ⊢
   cases hb : ev c own n0 n x s with
   | none => rw [hb] at hr; cases hr
   | some p =>
    obtain ⟨y, s1⟩ := p
    rw [hb] at hr
    rw [ih hm hb]
    cases y with
    | goto l =>
     simp only [] at hr ⊢
     cases hf : findK b l with
     | none => rw [hf] at hr; exact hr
     | some rest => rw [hf] at hr; exact ih hm hr
    | _ => exact hr
theorem evF_mono : ∀ {n n' : Nat}, n ≤ n' → CallLe (evF F X n) (evF F X n') := by
 intro n
 induction n with
 | zero => intro n' _ g xs H r hr; simp [evF] at hr
 | succ n ih =>
  intro n' hn g xs H r hr
  obtain ⟨m, rfl⟩ : ∃ m, n' = m + 1 := ⟨n' - 1, by omega⟩
  have hm : n ≤ m := by omega
  simp only [evF] at hr ⊢
  cases hg : F g with
  | none => rw [hg] at hr; exact hr
  | some fn =>
   rw [hg] at hr
   simp only [] at hr ⊢
   split at hr
   ·cases hr
   ·rename_i hl
    rw [if_neg hl]
    cases hb : ev (evF F X n) (modeOf F) H.length n fn.body (env0 fn xs, H) with
    | none => rw [hb] at hr; cases hr
    | some p =>
     rw [hb] at hr
     rw [ev_mono (ih hm) hm hb]
     exact hr

/-! ### runs: code goes from a state to a state -/
abbrev ownOf (F : Nat → Option Fun) : Nat → Mode := modeOf F
def Runs (F : Nat → Option Fun) (X : Nat → List V → Option (V × List Blk)) (n0 : Nat) (k : K) (s : St) (r : Ex) (s' : St) : Prop := ∃ n, ev (evF F X n) (ownOf F) n0 n k s = some (r, s')
/-- a function's answer -/
def Ans (F : Nat → Option Fun) (X : Nat → List V → Option (V × List Blk)) (g : Nat) (xs : List V) (H : List Blk) (v : V) (H' : List Blk) : Prop := ∃ n, evF F X n g xs H = some (v, H')

variable {k a b : K} {s s1 s2 : St} {r : Ex}
theorem runs_seq (h1 : Runs F X n0 a s .norm s1) (h2 : Runs F X n0 b s1 r s2) : Runs F X n0 (.seq a b) s r s2 := by
 obtain ⟨n, h1⟩ := h1
 obtain ⟨m, h2⟩ := h2
 refine ⟨n + m + 1, ?_⟩
 simp only [ev]
 rw [ev_mono (evF_mono (by omega)) (by omega) h1]
 exact ev_mono (evF_mono (by omega)) (by omega) h2
theorem runs_seq_out (h1 : Runs F X n0 a s r s1) (hr : r ≠ .norm) : Runs F X n0 (.seq a b) s r s1 := by
 obtain ⟨n, h1⟩ := h1
 refine ⟨n + 1, ?_⟩
 simp only [ev]
 rw [ev_mono (evF_mono (by omega)) (Nat.le_refl _) h1]
 cases r <;> first | exact absurd rfl hr | rfl
theorem runs_cond_t {c : R} (hc : c.ev s.1 = .bool true) (h : Runs F X n0 a s r s1) : Runs F X n0 (.cond c a b) s r s1 := by
 obtain ⟨n, h⟩ := h
 refine ⟨n + 1, ?_⟩
 simp only [ev, hc]
 exact ev_mono (evF_mono (by omega)) (Nat.le_refl _) h
theorem runs_cond_f {c : R} (hc : c.ev s.1 = .bool false) (h : Runs F X n0 b s r s1) : Runs F X n0 (.cond c a b) s r s1 := by
 obtain ⟨n, h⟩ := h
 refine ⟨n + 1, ?_⟩
 simp only [ev, hc]
 exact ev_mono (evF_mono (by omega)) (Nat.le_refl _) h
theorem runs_block {id : Nat} (h : Runs F X n0 a s r s1) (hr : ∀ i, r ≠ .exit i) : Runs F X n0 (.block id a) s r s1 := by
 obtain ⟨n, h⟩ := h
 refine ⟨n + 1, ?_⟩
 simp only [ev]
 rw [ev_mono (evF_mono (by omega)) (Nat.le_refl _) h]
 cases r <;> first | exact absurd rfl (hr _) | rfl
theorem runs_block_exit {id : Nat} (h : Runs F X n0 a s (.exit id) s1) : Runs F X n0 (.block id a) s .norm s1 := by
 obtain ⟨n, h⟩ := h
 refine ⟨n + 1, ?_⟩
 simp only [ev]
 rw [ev_mono (evF_mono (by omega)) (Nat.le_refl _) h]
 simp
theorem runs_block_out {id i : Nat} (h : Runs F X n0 a s (.exit i) s1) (hi : i ≠ id) : Runs F X n0 (.block id a) s (.exit i) s1 := by
 obtain ⟨n, h⟩ := h
 refine ⟨n + 1, ?_⟩
 simp only [ev]
 rw [ev_mono (evF_mono (by omega)) (Nat.le_refl _) h]
 simp [hi]
theorem runs_pre {t : Trim} {s0 : St} (h0 : trim n0 t s = some s0) (h1 : Runs F X n0 a s0 r s1) : Runs F X n0 (.pre t a) s r s1 := by
 obtain ⟨n, h1⟩ := h1
 refine ⟨n + 1, ?_⟩
 simp only [ev, h0]
 exact ev_mono (evF_mono (by omega)) (Nat.le_refl _) h1
theorem runs_loop {kp : Trim} {s0 : St} (h0 : trim n0 kp s = some s0) (h1 : Runs F X n0 a s0 .norm s1) (h2 : Runs F X n0 (.loop kp a) s1 r s2) : Runs F X n0 (.loop kp a) s r s2 := by
 obtain ⟨n, h1⟩ := h1
 obtain ⟨m, h2⟩ := h2
 refine ⟨n + m + 1, ?_⟩
 simp only [ev, h0]
 rw [ev_mono (evF_mono (by omega)) (by omega) h1]
 exact ev_mono (evF_mono (by omega)) (by omega) h2
theorem runs_loop_out {kp : Trim} {s0 : St} (h0 : trim n0 kp s = some s0) (h1 : Runs F X n0 a s0 r s1) (hr : r ≠ .norm) : Runs F X n0 (.loop kp a) s r s1 := by
 obtain ⟨n, h1⟩ := h1
 refine ⟨n + 1, ?_⟩
 simp only [ev, h0]
 rw [ev_mono (evF_mono (by omega)) (Nat.le_refl _) h1]
 cases r <;> first | exact absurd rfl hr | rfl
theorem runs_scope (h : Runs F X n0 (.rsm a a) s r s1) : Runs F X n0 (.scope a) s r s1 := by
 obtain ⟨n, h⟩ := h
 exact ⟨n + 1, by simp only [ev]; exact ev_mono (evF_mono (by omega)) (Nat.le_refl _) h⟩
theorem runs_rsm (h : Runs F X n0 a s r s1) (hr : ∀ l, r ≠ .goto l) : Runs F X n0 (.rsm a b) s r s1 := by
 obtain ⟨n, h⟩ := h
 refine ⟨n + 1, ?_⟩
 simp only [ev]
 rw [ev_mono (evF_mono (by omega)) (Nat.le_refl _) h]
 cases r <;> first | exact absurd rfl (hr _) | rfl
theorem runs_rsm_goto {l : Nat} {rest : K} (h : Runs F X n0 a s (.goto l) s1) (hf : findK b l = some rest) (h2 : Runs F X n0 (.rsm rest b) s1 r s2) : Runs F X n0 (.rsm a b) s r s2 := by
 obtain ⟨n, h⟩ := h
 obtain ⟨m, h2⟩ := h2
 refine ⟨n + m + 1, ?_⟩
 simp only [ev]
 rw [ev_mono (evF_mono (by omega)) (by omega) h]
 simp only [hf]
 exact ev_mono (evF_mono (by omega)) (by omega) h2
theorem runs_rsm_none {l : Nat} (h : Runs F X n0 a s (.goto l) s1) (hf : findK b l = none) : Runs F X n0 (.rsm a b) s (.goto l) s1 := by
 obtain ⟨n, h⟩ := h
 refine ⟨n + 1, ?_⟩
 simp only [ev]
 rw [ev_mono (evF_mono (by omega)) (Nat.le_refl _) h]
 simp only [hf]
theorem runs_region {ops : List Op} {d : Bool} {e : Env} {H : List Blk} (n : Nat) (h : evOps (evF F X n) (ownOf F) (if d then barrier ops (ancs ops []) else fun _ => true) 0 ops s.1 s.2 = some (e, H)) : Runs F X n0 (.region ops d) s .norm (commit s.1 e, H) := by
 refine ⟨n + 1, ?_⟩
 simp only [ev]
 rw [evOps_mono (evF_mono (by omega)) h]
 rfl
theorem runs_ret : Runs F X n0 .ret s .ret s := ⟨1, rfl⟩
theorem runs_skip : Runs F X n0 .skip s .norm s := ⟨1, rfl⟩
theorem runs_exit {id : Nat} : Runs F X n0 (.exit id) s (.exit id) s := ⟨1, rfl⟩
theorem runs_goto {l : Nat} : Runs F X n0 (.goto l) s (.goto l) s := ⟨1, rfl⟩
theorem runs_label {l : Nat} : Runs F X n0 (.label l) s .norm s := ⟨1, rfl⟩
/-- a function answers -/
theorem ans_of {g : Nat} {fn : Fun} {xs : List V} {H H1 H2 : List Blk} {e1 : Env} {rs : List V} {v : V} (hF : F g = some fn) (hl : xs.length ≤ fn.ntmps) (hb : Runs F X H.length fn.body (env0 fn xs, H) r (e1, H1)) (hr : r = .norm ∨ r = .ret)
  (h1 : fn.res.mapM (resOf e1 H1) = some rs) (h2 : compact H.length [one1 rs] H1 = some ([v], H2)) {v' : V} {H3 : List Blk} (h3 : fin fn H.length v H2 = some (v', H3)) : Ans F X g xs H v' H3 := by
 obtain ⟨n, hb⟩ := hb
 refine ⟨n + 1, ?_⟩
 have hb' : ev (evF F X n) (modeOf F) H.length n fn.body (env0 fn xs, H) = some (r, e1, H1) := hb
 simp only [evF, hF, show ¬ fn.ntmps < xs.length by omega, if_false, hb']
 rcases hr with rfl | rfl <;> simp [h1, h2, h3]
end Go.Proofs.YtchoafdpckknmaaDoorE
