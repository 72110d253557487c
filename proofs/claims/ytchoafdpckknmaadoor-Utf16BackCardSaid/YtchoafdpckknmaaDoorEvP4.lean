/- The evaluator, handing on what it finds: calls in the open; loops carried out round by round. -/
import Derived.Test.YtchoafdpckknmaaDoorEvP3
namespace Go.Proofs.YtchoafdpckknmaaDoorE
open Go
set_option linter.unusedSimpArgs false
set_option linter.unusedVariables false
variable {α : Type} {F : Nat → Option Fun} {X : Nat → List V → Option (V × List Blk)} {tab : Nat → Option Ent} {raw : RawF α} {LP : LoopF α} {ret : St → Option α} {n0 : Nat}

/-- values, and a heap -/
structure Pr where
 a : Pvs
 h : List Pb
@[reducible] def Pr.T (p : Pr) : Type := p.a.T × HT p.h
def Pr.dec (p : Pr) (zs : List V) (H : List Blk) : Option p.T :=
 match p.a.dec zs with
 | some a => (match decH p.h H with | some b => some (a, b) | none => none)
 | none => none
theorem Pr.exact (p : Pr) {zs : List V} {H : List Blk} {x : p.T} (h : p.dec zs H = some x) : zs = p.a.st x.1 ∧ H = stH p.h x.2 := by
 simp only [Pr.dec] at h
 split at h <;> try (cases h; done)
 rename_i a ha
 split at h <;> try (cases h; done)
 rename_i b hb
 injection h with h; subst h
 exact ⟨Pvs.exact _ _ a ha, decH_exact _ _ b hb⟩
/-- what is known of a function that is called in the open -/
structure REnt where
 P : Pr
 Q : Pr
 R : Type
 f : P.T → Option R
 c : R → Q.T
def REntOK (F : Nat → Option Fun) (X : Nat → List V → Option (V × List Blk)) (g : Nat) (en : REnt) : Prop :=
 ∀ v r w, en.f v = some r → en.Q.a.st (en.c r).1 = [w] → Ans F X g (en.P.a.st v.1) (stH en.P.h v.2) w (stH en.Q.h (en.c r).2)
def rawGo (zs : List V) (H : List Blk) (κ : V → List Blk → Option α) : List REnt → Option α
 | [] => none
 | en :: l =>
  match en.P.dec zs H with
  | some v =>
   match en.f v with
   | some r => (match en.Q.a.st (en.c r).1 with | w :: t => (match t with | [] => κ w (stH en.Q.h (en.c r).2) | _ => none) | [] => none)
   | none => none
  | none => rawGo zs H κ l
def rawOf (l : Nat → List REnt) : RawF α := fun g zs H κ => rawGo zs H κ (l g)
theorem rawOf_ok {l : Nat → List REnt} (h : ∀ g en, en ∈ l g → REntOK F X g en) : RawOK F X (rawOf (α := α) l) := by
 intro g zs H κ a ha
 have key : ∀ m : List REnt, (∀ en ∈ m, REntOK F X g en) → rawGo zs H κ m = some a → ∃ r Hc', Ans F X g zs H r Hc' ∧ κ r Hc' = some a := by
  intro m
  induction m with
  | nil => intro _ h; cases h
  | cons en m ih =>
   intro hm hr
   simp only [rawGo] at hr
   split at hr
   ·rename_i v hv
    obtain ⟨rfl, rfl⟩ := en.P.exact hv
    split at hr <;> try (cases hr; done)
    rename_i r hf
    split at hr <;> try (cases hr; done)
    rename_i w t hw
    split at hr <;> try (cases hr; done)
    exact ⟨w, _, hm en (by simp) v r w hf hw, hr⟩
   ·exact ih (fun en h => hm en (by simp [h])) hr
 exact key (l g) (h g) ha
def RW0 : Nat → List REnt := fun _ => []
theorem rawOK0 : RawOK F X (rawOf (α := α) RW0) := rawOf_ok (fun g en h => by cases h)
def retr (rs : List Res) (n0 : Nat) (Q : Pr) (s : St) : Option Q.T :=
 resultsc s.1 s.2 (fun l => match compact n0 [one1 l] s.2 with | some p => Q.dec p.1 p.2 | none => none) rs []
theorem ans_r {g : Nat} {fn : Fun} {Q : Pr} {raw : RawF Q.T} {LP : LoopF Q.T} {args : List V} {H0 : List Blk} {n0 fu : Nat} {z : Q.T} {w : V} (hT : TabOK F X tab) (hO : RawOK F X raw) (hF : F g = some fn) (hR : fn.rsh = none) (hlen : args.length ≤ fn.ntmps)
  (hn0 : H0.length = n0) (hL : LoopOK F X n0 (retr fn.res n0 Q) LP (lps fn.body))
  (h : evc tab raw LP (retr fn.res n0 Q) (modeOf F) n0 fu fn.body (env0 fn args, H0) (endK (retr fn.res n0 Q)) = some z) (hw : Q.a.st z.1 = [w]) : Ans F X g args H0 w (stH Q.h z.2) := by
 subst hn0
 have fin' : ∀ (r : Ex) (s : St), (r = .norm ∨ r = .ret) → Runs F X H0.length fn.body (env0 fn args, H0) r s → retr fn.res H0.length Q s = some z → Ans F X g args H0 w (stH Q.h z.2) := by
  intro r s hr hrun hz
  obtain ⟨e1, H1⟩ := s
  obtain ⟨l, h1, h2⟩ := resultsc_spec hz
  simp only [List.nil_append] at h2
  split at h2 <;> try (cases h2; done)
  rename_i p hp
  obtain ⟨vs, H2⟩ := p
  obtain ⟨h3, h4⟩ := Q.exact h2
  simp only [] at h3 h4
  rw [hw] at h3
  subst h3; subst h4
  exact ans_of hF hlen hrun hr h1 hp (by simp only [fin, hR])
 rcases evc_spec hT hO fu fn.body _ _ _ hL h with ⟨r, s', hr, h1, h2⟩ | ⟨s', h1, h2⟩
 ·cases r with
  | norm => exact fin' _ _ (.inl rfl) h1 h2
  | _ => cases h2
 ·exact fin' _ _ (.inr rfl) h1 h2

/-! ### calls carried out in place -/
def reti (rs : List Res) (n0 : Nat) (κ : V → List Blk → Option α) (s : St) : Option α :=
 resultsc s.1 s.2 (fun l => match compact n0 [one1 l] s.2 with | some p => (match p.1 with | v :: _ => κ v p.2 | [] => none) | none => none) rs []
/-- a function without loops, carried out where it is called -/
def addI (tab : Nat → Option Ent) (md : Nat → Mode) (fu g : Nat) (fn : Fun) (raw : RawF α) : RawF α := fun g' zs H κ =>
 match Nat.beq g' g with
 | true => (match Nat.ble zs.length fn.ntmps with | true => evc tab raw (fun _ _ _ => none) (reti fn.res H.length κ) md H.length fu fn.body (env0 fn zs, H) (endK (reti fn.res H.length κ)) | false => none)
 | false => raw g' zs H κ
theorem addI_ok {fu g : Nat} {fn : Fun} (hT : TabOK F X tab) (hO : RawOK F X raw) (hF : F g = some fn) (hR : fn.rsh = none) : RawOK F X (addI tab (modeOf F) fu g fn raw) := by
 intro g' zs H κ a h
 unfold addI at h
 split at h
 ·rename_i hg
  obtain rfl := Nat.eq_of_beq_eq_true hg
  split at h <;> try (cases h; done)
  rename_i hl
  have fin' : ∀ (r : Ex) (s : St), (r = .norm ∨ r = .ret) → Runs F X H.length fn.body (env0 fn zs, H) r s → reti fn.res H.length κ s = some a → ∃ r Hc', Ans F X g' zs H r Hc' ∧ κ r Hc' = some a := by
   intro r s hr hrun hz
   obtain ⟨e1, H1⟩ := s
   obtain ⟨l, h1, h2⟩ := resultsc_spec hz
   simp only [List.nil_append] at h2
   split at h2 <;> try (cases h2; done)
   rename_i p hp
   obtain ⟨vs, H2⟩ := p
   have hlen1 : vs.length = 1 := by
    simp only [compact, Option.bind_eq_some_iff, Option.map_eq_some_iff, Prod.mk.injEq] at hp
    obtain ⟨vs', q1, _, _, rfl, _⟩ := hp
    simpa using (mapM_get q1).1
   match vs, hlen1 with
   | [v], _ => exact ⟨v, H2, ans_of hF (Nat.le_of_ble_eq_true hl) hrun hr h1 hp (by simp only [fin, hR]), h2⟩
  rcases evc_spec hT hO fu fn.body _ _ _ (fun t b _ s κ a h => by cases h) h with ⟨r, s', hr, h1, h2⟩ | ⟨s', h1, h2⟩
  ·cases r with
   | norm => exact fin' _ _ (.inl rfl) h1 h2
   | _ => cases h2
  ·exact fin' _ _ (.inr rfl) h1 h2
 ·exact hO _ _ _ _ _ h

/-! ### loops round by round -/
def unr (tab : Nat → Option Ent) (raw : RawF α) (LP : LoopF α) (ret : St → Option α) (md : Nat → Mode) (n0 fu : Nat) (t : Trim) (b : K) : Nat → St → (Ex → St → Option α) → Option α
 | 0, _, _ => none
 | n + 1, s, κ => trimc n0 t s fun s0 => evc tab raw LP ret md n0 fu b s0 fun r s1 =>
   match r with
   | .norm => unr tab raw LP ret md n0 fu t b n s1 κ
   | .exit i => κ (.exit i) s1
   | _ => none
theorem unr_out (hT : TabOK F X tab) (hO : RawOK F X raw) {t : Trim} {b : K} {fu : Nat} (hL : LoopOK F X n0 ret LP (lps b)) : ∀ (n : Nat) {s : St} {κ : Ex → St → Option α} {a : α}, unr tab raw LP ret (modeOf F) n0 fu t b n s κ = some a → Out F X n0 ret (.loop t b) s κ a := by
 intro n
 induction n with
 | zero => intro s κ a h; cases h
 | succ n ih =>
  intro s κ a h
  simp only [unr] at h
  obtain ⟨s0, h1, h2⟩ := trimc_spec h
  rcases evc_spec hT hO fu b _ _ _ hL h2 with ⟨r, s', hr, h3, h4⟩ | ⟨s', h3, h4⟩
  ·cases r with
   | norm =>
    rcases ih h4 with ⟨r2, s2, hr2, h5, h6⟩ | ⟨s2, h5, h6⟩
    ·exact .inl ⟨r2, s2, hr2, runs_loop h1 h3 h5, h6⟩
    ·exact .inr ⟨s2, runs_loop h1 h3 h5, h6⟩
   | exit i => exact .inl ⟨_, s', by simp, runs_loop_out h1 h3 (by simp), h4⟩
   | goto l => cases h4
   | ret => exact absurd rfl hr
  ·exact .inr ⟨s', runs_loop_out h1 h3 (by simp), h4⟩

/-! ### short words for what is printed -/
def tb : List (Nat × Ent) → Nat → Option Ent
 | [], _ => none
 | p :: l, g => match Nat.beq g p.1 with
  | true => some p.2
  | false => tb l g
theorem tb0 : TabOK F X (tb []) := fun g en h => by cases h
theorem tb1 {g : Nat} {en : Ent} {l : List (Nat × Ent)} (h : EntOK F X g en) (hl : TabOK F X (tb l)) : TabOK F X (tb ((g, en) :: l)) := by
 intro g' en' h'
 simp only [tb] at h'
 split at h'
 ·rename_i e
  injection h' with h'; subst h'
  rw [Nat.eq_of_beq_eq_true e]; exact h
 ·exact hl g' en' h'
def W0 : LoopF α := fun _ _ _ => none
theorem okc {fu g : Nat} {fn : Fun} {A : List Sh} {R : Sh} {f : Ts A → Option R.T} (hT : TabOK F X tab) (hF : F g = some fn) (hS : (modeOf F g).ash = some A) (hR : fn.rsh = some R) (hn : ∀ v, Nat.ble (encL A v).length fn.ntmps = true)
  (h : ∀ v r, f v = some r → evc tab (rawOf RW0) W0 (retc fn.res R) (modeOf F) 0 fu fn.body (env0 fn (encL A v), []) (endK (retc fn.res R)) = some r) (hl : lps fn.body = []) : EntOK F X g ⟨A, R.T, f, fun r => (R.enc r, [])⟩ :=
 ⟨hS, fun v r hv => ans_c hT rawOK0 hF hR (Nat.le_of_ble_eq_true (hn v)) (by rw [hl]; exact loopOK_nil) (h v r hv)⟩
end Go.Proofs.YtchoafdpckknmaaDoorE
