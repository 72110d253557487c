/- Code. -/
import Derived.Test.YtchoafdpckknmaaDoorEvXa
import Derived.LoopN
namespace Go.Proofs.YtchoafdpckknmaaDoorE
open Go
set_option linter.unusedSimpArgs false
set_option linter.unusedVariables false
variable {P : Program} {w : World} {m : Nat → Option Nat} {I O : Nat → Prop} {ρ : Pl} {H H' Hb : List Blk} {v : V} {e e' : Env} {a : Act} {call : CallF} {own : Nat → Mode} {n0 nt : Nat} {Q : Exit → Act → World → Prop}

/-- as SRel, with a word on every entry -/
structure CSt (m : Nat → Option Nat) (nt n0 : Nat) (I O : Nat → Prop) (w : World) (ρ : Pl) (s : St) (a : Act) : Prop where
 env : ∀ (j t : Nat) (v : V), s.1[j]? = some (t, v) → RelV m I w ρ v (a.tmps.getD t undef)
 heap : HRel m I O w ρ s.2
 len : n0 ≤ s.2.length
 size : a.tmps.size = nt
 defers : a.defers = []

theorem erel_of : ∀ {e : Env}, (∀ (j t : Nat) (v : V), e[j]? = some (t, v) → RelV m I w ρ v (a.tmps.getD t undef)) → ERel m I w ρ e a
 | [], _, t => .undef _ _
 | (u, v) :: e, h, t => by
  simp only [look]
  split
  ·rename_i hh; subst hh; exact h 0 u v rfl
  ·exact erel_of (e := e) (fun j t v hj => h (j + 1) t v (by simpa using hj)) t
theorem CSt.srel {s : St} (h : CSt m nt n0 I O w ρ s a) : SRel m nt n0 I O w ρ s.1 s.2 a := ⟨erel_of h.env, h.heap, h.len, h.size, h.defers⟩
theorem SRel.toC {vars : Env} (h : SRel m nt n0 I O w ρ e H a) : CSt m nt n0 I O w ρ (commit vars e, H) a :=
 ⟨fun j t v hj => by
  simp only [commit, List.getElem?_map, Option.map_eq_some_iff, Prod.mk.injEq] at hj
  obtain ⟨p, _, rfl, rfl⟩ := hj
  exact h.env _, h.heap, h.len, h.size, h.defers⟩

theorem atHead_rel {keep : List Nat} {s s0 : St} (h : atHead n0 keep s = some s0) (hS : CSt m nt n0 I O w ρ s a) : ∃ ρ', CSt m nt n0 I O w ρ' s0 a ∧ CG n0 I O w ρ s.2 I O w ρ' s0.2 := by
 simp only [atHead, Option.map_eq_some_iff] at h
 obtain ⟨⟨vs, H1⟩, h1, rfl⟩ := h
 generalize hvars : (s.1.map fun p => (p.1, if keep.contains p.1 then p.2 else V.undef)) = vars at h1
 have hv : ∀ (j t : Nat) (v : V), vars[j]? = some (t, v) → RelV m I w ρ v (a.tmps.getD t undef) := by
  intro j t v hj
  rw [← hvars] at hj
  simp only [List.getElem?_map, Option.map_eq_some_iff, Prod.mk.injEq] at hj
  obtain ⟨⟨t', v'⟩, hp, rfl, rfl⟩ := hj
  split
  ·exact hS.env j _ _ hp
  ·exact .undef _ _
 obtain ⟨ρ', k1, k2, k3, k4, k5, k6, k7⟩ := compact_rel (xs := vars.map fun p => a.tmps.getD p.1 undef) h1 hS.heap (by simp) (fun j v x hj hx => by
  simp only [List.getElem?_map, Option.map_eq_some_iff] at hj hx
  obtain ⟨⟨t, v'⟩, hp, rfl⟩ := hj
  obtain ⟨p', hp', rfl⟩ := hx
  rw [hp] at hp'; injection hp' with e; subst e
  exact hv j t v' hp)
 refine ⟨ρ', ⟨fun j t v hj => ?_, k1, k3, hS.size, hS.defers⟩, ⟨fun _ h => h, .refl _ _, fun _ h => .inl h, fun _ h => .inl h, k2, fun i r hr hi => .inr (.inr (k6 i r hr hi)), k3, k7⟩⟩
 obtain ⟨h2, h3⟩ := List.getElem?_zip_eq_some.1 (show ((vars.map (·.1)).zip vs)[j]? = some (t, v) from hj)
 simp only [List.getElem?_map, Option.map_eq_some_iff] at h2
 obtain ⟨p, hp, rfl⟩ := h2
 exact k5 j v _ h3 (by simp [hp])

theorem setE_get : ∀ {e : Env} {t : Nat} {v : V} {j u : Nat} {x : V}, (setE e t v)[j]? = some (u, x) → (u = t ∧ x = v) ∨ e[j]? = some (u, x) := by
 intro e t v j u x h
 simp only [setE, List.getElem?_map, Option.map_eq_some_iff] at h
 obtain ⟨⟨u', x'⟩, h1, h2⟩ := h
 split at h2
 ·rename_i he
  simp only [Prod.mk.injEq] at h2
  obtain ⟨rfl, rfl⟩ := h2
  exact .inl ⟨he, rfl⟩
 ·simp only [Prod.mk.injEq] at h2
  obtain ⟨rfl, rfl⟩ := h2
  exact .inr h1
theorem ty0_rel {t : Nat} {S : Sh} {s s0 : St} (h : ty0 t S s = some s0) (hS : CSt m nt n0 I O w ρ s a) : ∃ I' O' ρ', CSt m nt n0 I' O' w ρ' s0 a ∧ CG n0 I O w ρ s.2 I' O' w ρ' s0.2 := by
 simp only [ty0, Option.map_eq_some_iff] at h
 generalize hFL : reach s.2 far [look s.1 t] [] = FL at h
 obtain ⟨z, h1, rfl⟩ := h
 have hH := hS.heap
 obtain ⟨k1, _⟩ := call_heap (L := []) (FL := FL) (Hc := []) (n := deep) (fun _ _ h => h) hH (fun _ _ => by simp) List.nodup_nil rfl
 have haf : After [] I O w ρ s.2 s.2 [] FL m (lentI I ρ s.2 FL) (callO O ρ s.2 []) w (plL [] ρ) [] := ⟨k1, .refl (Nat.le_refl _)⟩
 obtain ⟨g1, g2, g3⟩ := haf.gen (HbN := []) (fr := true) (d := deep) hH List.nodup_nil (fun _ h => by simp at h) (fun _ _ => by simp) (fun h => by cases h) rfl (Nat.le_refl _) (fun j ⟨b, hb, _⟩ => by simp at hb) rfl
 have e1 : putBack (if true = true then freeze FL s.2 else s.2) (([] : List Nat).zip (([] : List Blk).take ([] : List Nat).length)) ++ ([] : List Blk).drop ([] : List Nat).length = freeze FL s.2 := by simp [putBack]
 rw [e1] at g1 g3
 have hcg := g2.cg g3 hS.len hH
 refine ⟨_, _, _, ⟨fun j u v hj => ?_, g1, by show n0 ≤ (freeze FL s.2).length; rw [freeze_len]; exact hS.len, hS.size, hS.defers⟩, hcg⟩
 rcases setE_get hj with ⟨rfl, rfl⟩ | hj
 ·have hr := toT_rel (ρ' := ρ) (fun _ _ h => h) hH h1 (hS.srel.env u)
  exact hr.mono (fun k hk => .inr (.inr ⟨rfl, hk⟩)) (fun _ _ => rfl) (fun _ _ h => h) _ g2.mono.pl
 ·exact g2.mono.rel (hS.env j u v hj)
/-- blocks frozen, nothing else -/
theorem freeze_rel {s : St} (hS : CSt m nt n0 I O w ρ s a) (FL : List Nat) : ∃ I' O' ρ', HRel m I' O' w ρ' (freeze FL s.2) ∧ CG n0 I O w ρ s.2 I' O' w ρ' (freeze FL s.2) ∧ (∀ k, lentI I ρ s.2 FL k → I' k) ∧ (∀ b r, b < s.2.length → ρ' b = some r → ρ b = some r) ∧ (∀ v x, RelV m I w ρ v x → RelV m I' w ρ' v x) := by
 have hH := hS.heap
 obtain ⟨k1, _⟩ := call_heap (L := []) (FL := FL) (Hc := []) (n := deep) (fun _ _ h => h) hH (fun _ _ => by simp) List.nodup_nil rfl
 have haf : After [] I O w ρ s.2 s.2 [] FL m (lentI I ρ s.2 FL) (callO O ρ s.2 []) w (plL [] ρ) [] := ⟨k1, .refl (Nat.le_refl _)⟩
 obtain ⟨g1, g2, g3⟩ := haf.gen (HbN := []) (fr := true) (d := deep) hH List.nodup_nil (fun _ h => by simp at h) (fun _ _ => by simp) (fun h => by cases h) rfl (Nat.le_refl _) (fun j ⟨b, hb, _⟩ => by simp at hb) rfl
 have e1 : putBack (if true = true then freeze FL s.2 else s.2) (([] : List Nat).zip (([] : List Blk).take ([] : List Nat).length)) ++ ([] : List Blk).drop ([] : List Nat).length = freeze FL s.2 := by simp [putBack]
 rw [e1] at g1 g3
 exact ⟨_, _, _, g1, g2.cg g3 hS.len hH, fun k hk => .inr (.inr ⟨rfl, hk⟩), fun i r hi hr => (g2.pl' i r hr).elim id (fun h => by omega), fun v x h => g2.mono.rel h⟩
theorem asV_get {c : C} {l : List V} (h : asV c = some l) : c.len = l.length ∧ ∀ j, c.get j = l[j]? := by
 cases c <;> simp only [asV, Option.some.injEq] at h
 ·cases h
 ·subst h; exact ⟨rfl, fun _ => rfl⟩
 ·subst h; exact ⟨rfl, fun _ => rfl⟩
theorem plC_idf {c : C} {v : V} {x : Value} (hc : c.isImm = true → v.idf = true) (h : RelV m I w ρ v x) : RelV m I w (plC c ρ) v x := by
 unfold plC
 split
 ·rename_i hi; exact h.idf (hc hi) _
 ·exact h
/-- a block's cells told anew -/
theorem hrel_set {c c' : C} {b : Nat} {H : List Blk} (hH : HRel m I O w ρ H) (hb : H[b]? = some (.cells false c)) (hB : ∀ r, ρ b = some r → BRel m I O w ρ r (.cells false c) → BRel m I O w ρ r (.cells false c')) : HRel m I O w ρ (H.set b (.cells false c')) := by
 have hlive : ∀ j, live (H.set b (.cells false c')) j → live H j := fun j hj => live_set hj ⟨_, hb, by simp⟩
 refine ⟨fun i j r hi hj li lj => hH.inj i j r hi hj (hlive i li) (hlive j lj), fun i r hr => ?_, hH.lt, hH.own, hH.imm, hH.dis, hH.tab⟩
 obtain ⟨bl, h1, h2⟩ := hH.blk i r hr
 by_cases e : b = i
 ·subst e
  rw [hb] at h1; injection h1 with h1; subst h1
  exact ⟨_, List.getElem?_set_self (List.getElem?_eq_some_iff.1 hb).1, hB r hr h2⟩
 ·exact ⟨bl, by rw [List.getElem?_set_ne e]; exact h1, h2⟩
theorem cg_set {c c' : C} {b : Nat} {H H1 : List Blk} {I' O' : Nat → Prop} {ρ' : Pl} (h : CG n0 I O w ρ H I' O' w ρ' H1) (hb : H1[b]? = some (.cells false c)) : CG n0 I O w ρ H I' O' w ρ' (H1.set b (.cells false c')) :=
 ⟨h.imm, h.ext, h.imm', h.own', h.pl, h.pl', by rw [List.length_set]; exact h.len, fun j hj hl => h.live j hj (live_set hl ⟨_, hb, by simp⟩)⟩
theorem freeze_out {L : List Nat} {H : List Blk} {b : Nat} {u : Blk} (h : H[b]? = some u) (hb : L.contains b = false) : (freeze L H)[b]? = some u := by
 rw [freeze_get, h, Option.map_some, hb]; rfl
theorem tyB_rel {b o : Nat} {S : Sh} {s s0 : St} (h : tyB b o S s = some s0) (hS : CSt m nt n0 I O w ρ s a) : ∃ I' O' ρ', CSt m nt n0 I' O' w ρ' s0 a ∧ CG n0 I O w ρ s.2 I' O' w ρ' s0.2 := by
 unfold tyB at h
 split at h <;> try (cases h; done)
 rename_i c hb
 simp only [Option.bind_eq_some_iff] at h
 obtain ⟨l, hl, v, hv, h⟩ := h
 split at h <;> try (cases h; done)
 rename_i hnc
 simp only [Option.map_eq_some_iff] at h
 obtain ⟨z, hz, rfl⟩ := h
 obtain ⟨I', O', ρ', g1, g2, g3, g4, g5⟩ := freeze_rel hS (reach s.2 far [v] [])
 have hb' := freeze_out (L := reach s.2 far [v] []) hb (by simpa using hnc)
 obtain ⟨a1, a2⟩ := asV_get hl
 refine ⟨I', O', ρ', ⟨fun j u v hj => g5 _ _ (hS.env j u v hj), hrel_set g1 hb' (fun r hr hB => ?_), by rw [List.length_set]; exact g2.len, hS.size, hS.defers⟩, cg_set g2 hb'⟩
 obtain ⟨cs, e, fr, q1, q2, q3, q4, q5, q6, q7⟩ := hB
 have hlen : (l.set o (.tb S z)).length = c.len := by rw [List.length_set, a1]
 refine ⟨cs, e, fr, q1, q2, by show (l.set o _).length ≤ _; rw [hlen]; exact q3, fun j u hu => ?_, fun j u x hu hx => ?_, q6, fun h => by cases h⟩
 ·have hu' : (l.set o (.tb S z))[j]? = some u := hu
  rw [List.getElem?_set] at hu'
  split at hu'
  ·split at hu'
   ·injection hu' with hu'; subst hu'; rfl
   ·cases hu'
  ·exact q4 j u (by rw [a2]; exact hu')
 ·have hu' : (l.set o (.tb S z))[j]? = some u := hu
  show RelV m I' w ρ' u x
  rw [List.getElem?_set] at hu'
  split at hu'
  ·rename_i hoj
   subst hoj
   split at hu'
   ·injection hu' with hu'
    subst hu'
    -- the machine's value is the same; only what is known of it changes
    have hr0 := g4 b r (List.getElem?_eq_some_iff.1 hb).1 hr
    have hB0 := hS.heap.at hb hr0
    obtain ⟨cs0, e0, fr0, p1, p2, p3, p4, p5, _⟩ := hB0
    rw [p1] at q1
    injection q1 with q1
    injection q1 with q1 _ _
    subst q1
    have hx0 : RelV m I w ρ v x := plC_to (p5 o v x (by rw [a2]; exact hv) hx)
    have hr := toT_rel (s := .sl S) (z := z) (ρ' := ρ) (fun _ _ h => h) hS.heap hz hx0
    exact (RelV.toI hr g3).idf rfl _
   ·cases hu'
  ·exact plC_to (q5 j u x (by rw [a2]; exact hu') hx)
theorem tyP_rel {b : Nat} : ∀ {S : Sh} {o : Nat} {s s0 : St} {I O : Nat → Prop} {ρ : Pl}, tyP b S o s = some s0 → CSt m nt n0 I O w ρ s a → ∃ I' O' ρ', CSt m nt n0 I' O' w ρ' s0 a ∧ CG n0 I O w ρ s.2 I' O' w ρ' s0.2 := by
 intro S
 induction S with
 | sl S _ => intro o s s0 I O ρ h hS; exact tyB_rel h hS
 | pr x y ihx ihy =>
  intro o s s0 I O ρ h hS
  simp only [tyP, Option.bind_eq_some_iff] at h
  obtain ⟨s1, h1, h2⟩ := h
  obtain ⟨I1, O1, ρ1, k1, k2⟩ := ihx h1 hS
  obtain ⟨I2, O2, ρ2, k3, k4⟩ := ihy h2 k1
  exact ⟨I2, O2, ρ2, k3, k2.trans k4⟩
 | _ => intro o s s0 I O ρ h hS; simp only [tyP, Option.some.injEq] at h; subst h; exact ⟨I, O, ρ, hS, .refl hS.len⟩
theorem tyR_rel {t b o : Nat} {s s0 : St} (ht : look s.1 t = .ptr b o) (h : tyR t b o s = some s0) (hS : CSt m nt n0 I O w ρ s a) : ∃ I' O' ρ', CSt m nt n0 I' O' w ρ' s0 a ∧ CG n0 I O w ρ s.2 I' O' w ρ' s0.2 := by
 unfold tyR at h
 split at h <;> try (cases h; done)
 rename_i c hb
 split at h <;> try (cases h; done)
 rename_i hc
 subst hc
 simp only [Option.map_eq_some_iff] at h
 obtain ⟨c', hc', rfl⟩ := h
 obtain ⟨I', O', ρ', g1, g2, g3, g4, g5⟩ := freeze_rel hS [b]
 refine ⟨I', O', ρ', ⟨fun j u v hj => ?_, g1, by show n0 ≤ (freeze [b] s.2).length; rw [freeze_len]; exact hS.len, hS.size, hS.defers⟩, g2⟩
 rcases setE_get hj with ⟨rfl, rfl⟩ | hj
 ·have he := hS.srel.env u
  rw [ht] at he
  generalize a.tmps.getD u undef = x at he
  cases he with
  | ptr _ _ _ r hr =>
   have hB := hS.heap.at hb hr
   have hcell : ∀ (j : Nat) (v : V), c'.get j = some v → v.isCell = true ∧ ∃ x, w.cell? ⟨r, j, none⟩ = some x ∧ RelV m I w noPl v x := fun j v hj => by
    obtain ⟨k1, k2⟩ := asR_get (m := m) (I := I) (w := w) (ρ := ρ) hc' j
    rw [k1] at hj
    obtain ⟨h1, x, h2, h3⟩ := hB.cell hj
    exact ⟨h1, x, h2, k2 v x hj h3⟩
   refine .rptr _ c' r 0 (fun j => (w.cell? ⟨r, j, none⟩).getD undef) (g3 r (.inr ⟨b, false, c, by simp, hr, hb⟩)) (fun j v hj => ?_) (fun j v hj => ?_)
   ·obtain ⟨h1, x, h2, _⟩ := hcell j v hj
    refine ⟨h1, ?_⟩
    rw [Nat.zero_add, h2]; rfl
   ·obtain ⟨_, x, h2, h3⟩ := hcell j v hj
    simp only [h2, Option.getD_some]
    exact h3.toI (fun k hk => g3 k (.inl hk))
 ·exact g5 _ _ (hS.env j u v hj)
theorem tyN_rel {b sz : Nat} {S : Sh} : ∀ {n o : Nat} {s s0 : St} {I O : Nat → Prop} {ρ : Pl}, tyN b sz S n o s = some s0 → CSt m nt n0 I O w ρ s a → ∃ I' O' ρ', CSt m nt n0 I' O' w ρ' s0 a ∧ CG n0 I O w ρ s.2 I' O' w ρ' s0.2
 | 0, o, s, s0, I, O, ρ, h, hS => by simp only [tyN, Option.some.injEq] at h; subst h; exact ⟨I, O, ρ, hS, .refl hS.len⟩
 | n + 1, o, s, s0, I, O, ρ, h, hS => by
  simp only [tyN, Option.bind_eq_some_iff] at h
  obtain ⟨s1, h1, h2⟩ := h
  obtain ⟨I1, O1, ρ1, k1, k2⟩ := tyP_rel h1 hS
  obtain ⟨I2, O2, ρ2, k3, k4⟩ := tyN_rel h2 k1
  exact ⟨I2, O2, ρ2, k3, k2.trans k4⟩
theorem ty1_rel {t : Nat} {S : Sh} {s s0 : St} (h : ty1 t S s = some s0) (hS : CSt m nt n0 I O w ρ s a) : ∃ I' O' ρ', CSt m nt n0 I' O' w ρ' s0 a ∧ CG n0 I O w ρ s.2 I' O' w ρ' s0.2 := by
 unfold ty1 at h
 split at h
 ·rename_i b o hv
  split at h
  ·exact tyB_rel h hS
  ·exact tyP_rel h hS
  ·exact tyR_rel hv h hS
 ·split at h
  ·exact tyN_rel h hS
  ·exact ty0_rel h hS
 ·injection h with h; subst h; exact ⟨I, O, ρ, hS, .refl hS.len⟩
 ·exact ty0_rel h hS
theorem tys_rel : ∀ {l : List (Nat × Sh)} {s s0 : St} {I O : Nat → Prop} {ρ : Pl}, tys l s = some s0 → CSt m nt n0 I O w ρ s a → ∃ I' O' ρ', CSt m nt n0 I' O' w ρ' s0 a ∧ CG n0 I O w ρ s.2 I' O' w ρ' s0.2
 | [], s, s0, I, O, ρ, h, hS => by simp only [tys, Option.some.injEq] at h; subst h; exact ⟨I, O, ρ, hS, .refl hS.len⟩
 | p :: l, s, s0, I, O, ρ, h, hS => by
  simp only [tys, Option.bind_eq_some_iff] at h
  obtain ⟨s1, h1, h2⟩ := h
  obtain ⟨I1, O1, ρ1, k1, k2⟩ := ty1_rel h1 hS
  obtain ⟨I2, O2, ρ2, k3, k4⟩ := tys_rel h2 k1
  exact ⟨I2, O2, ρ2, k3, k2.trans k4⟩
theorem CG.append {n : List Blk} (hn : n0 ≤ H.length) : CG n0 I O w ρ H I O w ρ (H ++ n) :=
 ⟨fun _ h => h, .refl _ _, fun _ h => .inl h, fun _ h => .inl h, fun _ _ => rfl, fun i r hr hi => .inr (.inr ⟨i, hi, hr⟩), by simp; omega, fun j hj hl => (alive_append H n).2 j (by omega) hl⟩
theorem gr1_rel {t sz : Nat} {c : C} {s : St} (hS : CSt m nt n0 I O w ρ s a) : CSt m nt n0 I O w ρ (gr1 t c sz s) a ∧ CG n0 I O w ρ s.2 I O w ρ (gr1 t c sz s).2 := by
 have grown : ∀ A, a.tmps.getD t undef = .slice A 0 0 → CSt m nt n0 I O w ρ (setE s.1 t (.sl s.2.length 0 0 none sz), s.2 ++ [.cells false c]) a ∧ CG n0 I O w ρ s.2 I O w ρ (s.2 ++ [.cells false c]) := by
  intro A hA
  refine ⟨⟨fun j u v hj => ?_, hS.heap.grow (fun i b hb => by rw [List.getElem?_append_left (List.getElem?_eq_some_iff.1 hb).1]; exact hb), by have := hS.len; simp; omega, hS.size, hS.defers⟩, .append hS.len⟩
  rcases setE_get hj with ⟨rfl, rfl⟩ | hj
  ·rw [hA]; exact .sl0 _ _ _ _ _ _ (fun c h => by cases h)
  ·exact hS.env j u v hj
 have he := hS.srel.env t
 unfold gr1
 split
 ·rename_i hv
  rw [hv] at he
  generalize hx : a.tmps.getD t undef = x at he
  cases he
  exact grown _ hx
 ·rename_i hv
  rw [hv] at he
  generalize hx : a.tmps.getD t undef = x at he
  cases he
  exact grown _ hx
 ·rename_i b off len cap sz' hv
  rw [hv] at he
  split
  ·exact ⟨hS, .refl hS.len⟩
  split <;> try exact ⟨hS, .refl hS.len⟩
  rename_i ro c hb
  split <;> try exact ⟨hS, .refl hS.len⟩
  split <;> try exact ⟨hS, .refl hS.len⟩
  rename_i hc
  obtain ⟨rfl, rfl, hle⟩ := hc
  have hlive : ∀ j, live (s.2.set b (.cells false (c.sub 0 (len * sz')))) j → live s.2 j := fun j hj => live_set hj ⟨_, hb, by simp⟩
  have hset : ∀ i r, ρ i = some r → ∃ bl, (s.2.set b (.cells false (c.sub 0 (len * sz'))))[i]? = some bl ∧ BRel m I O w ρ r bl := by
   intro i r hr
   obtain ⟨bl, h1, h2⟩ := hS.heap.blk i r hr
   by_cases e : b = i
   ·subst e
    have hlt := (List.getElem?_eq_some_iff.1 hb).1
    rw [hb] at h1; injection h1 with h1; subst h1
    obtain ⟨cs, e, fr, q1, q2, q3, q4, q5, q6, q7⟩ := h2
    refine ⟨_, List.getElem?_set_self hlt, cs, e, fr, q1, q2, ?_, fun j v hv => q4 _ v (C.get_sub hv).2, fun j v x hv hx => ?_, q6, fun h => by cases h⟩
    ·rw [C.len_sub (by omega)]; omega
    ·have hg := (C.get_sub hv).2
     rw [Nat.zero_add] at hg
     rw [plC_sub]
     exact q5 j v x hg hx
   ·exact ⟨bl, by rw [List.getElem?_set_ne e]; exact h1, h2⟩
  refine ⟨⟨fun j u v hj => ?_, ⟨fun i j r hi hj li lj => hS.heap.inj i j r hi hj (hlive i li) (hlive j lj), hset, hS.heap.lt, hS.heap.own, hS.heap.imm, hS.heap.dis, hS.heap.tab⟩, by have := hS.len; simpa using this, hS.size, hS.defers⟩, ⟨fun _ h => h, .refl _ _, fun _ h => .inl h, fun _ h => .inl h, fun _ _ => rfl, fun i r hr hi => .inr (.inr ⟨i, hi, hr⟩), by have := hS.len; simpa using this, fun j hj hl => hlive j hl⟩⟩
  rcases setE_get hj with ⟨rfl, rfl⟩ | hj
  ·generalize hx : a.tmps.getD u undef = x at he
   cases he with
   | sl0 _ _ _ _ _ A h => exact .sl0 _ _ _ _ _ _ (fun c h => by cases h)
   | sl1 _ _ _ _ _ _ r rc n h1 h2 h3 h4 h5 => exact .sl1 _ _ _ _ _ _ r rc n h1 h2 (fun c h => by cases h) h4 h5
  ·exact hS.env j u v hj
 ·rename_i b o hv
  split <;> try exact ⟨hS, .refl hS.len⟩
  rename_i ro c0 hb
  split <;> try exact ⟨hS, .refl hS.len⟩
  split <;> try exact ⟨hS, .refl hS.len⟩
  rename_i l hl
  split <;> try exact ⟨hS, .refl hS.len⟩
  rename_i v hlv
  obtain ⟨a1, a2⟩ := asV_get hl
  have grow : (∀ x, RelV m I w ρ v x → ∃ A, x = .slice A 0 0) → CSt m nt n0 I O w ρ (s.1, s.2.set b (.cells false (.vals (l.set (o + sz / 1000) (.sl s.2.length 0 0 none (sz % 1000))))) ++ [.cells false c]) a ∧ CG n0 I O w ρ s.2 I O w ρ (s.2.set b (.cells false (.vals (l.set (o + sz / 1000) (.sl s.2.length 0 0 none (sz % 1000))))) ++ [.cells false c]) := by
   intro hnil
   have hlen : (l.set (o + sz / 1000) (.sl s.2.length 0 0 none (sz % 1000))).length = c0.len := by rw [List.length_set, a1]
   have hset := hrel_set (c' := .vals (l.set (o + sz / 1000) (.sl s.2.length 0 0 none (sz % 1000)))) hS.heap hb (fun r hr hB => by
    obtain ⟨cs, e, fr, q1, q2, q3, q4, q5, q6, q7⟩ := hB
    refine ⟨cs, e, fr, q1, q2, by show (l.set (o + sz / 1000) _).length ≤ _; rw [hlen]; exact q3, fun j u hu => ?_, fun j u x hu hx => ?_, q6, fun h => by cases h⟩
    ·have hu' : (l.set (o + sz / 1000) (.sl s.2.length 0 0 none (sz % 1000)))[j]? = some u := hu
     rw [List.getElem?_set] at hu'
     split at hu'
     ·split at hu'
      ·injection hu' with hu'; subst hu'; rfl
      ·cases hu'
     ·exact q4 j u (by rw [a2]; exact hu')
    ·have hu' : (l.set (o + sz / 1000) (.sl s.2.length 0 0 none (sz % 1000)))[j]? = some u := hu
     show RelV m I w ρ u x
     rw [List.getElem?_set] at hu'
     split at hu'
     ·rename_i hoj
      subst hoj
      split at hu'
      ·injection hu' with hu'
       subst hu'
       obtain ⟨A, rfl⟩ := hnil x (plC_to (q5 (o + sz / 1000) v x (by rw [a2]; exact hlv) hx))
       exact .sl0 _ _ _ _ _ _ (fun c h => by cases h)
      ·cases hu'
     ·exact plC_to (q5 j u x (by rw [a2]; exact hu') hx))
   have hcg : CG n0 I O w ρ s.2 I O w ρ (s.2.set b (.cells false (.vals (l.set (o + sz / 1000) (.sl s.2.length 0 0 none (sz % 1000)))))) := cg_set (CG.refl hS.len) hb
   refine ⟨⟨fun j u v hj => hS.env j u v hj, hset.grow (fun i b hb => by rw [List.getElem?_append_left (List.getElem?_eq_some_iff.1 hb).1]; exact hb), by have := hS.len; simp; omega, hS.size, hS.defers⟩, hcg.trans (.append (by rw [List.length_set]; exact hS.len))⟩
  split
  ·exact grow (fun x hx => by cases hx; exact ⟨_, rfl⟩)
  ·exact grow (fun x hx => by cases hx; exact ⟨_, rfl⟩)
  ·exact ⟨hS, .refl hS.len⟩
 ·exact ⟨hS, .refl hS.len⟩
theorem grs_rel : ∀ {l : List (Nat × C × Nat)} {s : St}, CSt m nt n0 I O w ρ s a → CSt m nt n0 I O w ρ (grs l s) a ∧ CG n0 I O w ρ s.2 I O w ρ (grs l s).2
 | [], s, hS => ⟨hS, .refl hS.len⟩
 | p :: l, s, hS => by
  obtain ⟨k1, k2⟩ := gr1_rel (t := p.1) (c := p.2.1) (sz := p.2.2) hS
  obtain ⟨k3, k4⟩ := grs_rel (l := l) k1
  exact ⟨k3, k2.trans k4⟩
theorem trim_rel {t : Trim} {s s0 : St} (h : trim n0 t s = some s0) (hS : CSt m nt n0 I O w ρ s a) : ∃ I' O' ρ', CSt m nt n0 I' O' w ρ' s0 a ∧ CG n0 I O w ρ s.2 I' O' w ρ' s0.2 := by
 simp only [trim, Option.bind_eq_some_iff] at h
 obtain ⟨s1, h1, h2⟩ := h
 obtain ⟨I1, O1, ρ1, k1, k2⟩ := tys_rel h1 hS
 obtain ⟨k3, k4⟩ := grs_rel (l := t.gr) k1
 split at h2
 ·injection h2 with h2; subst h2
  exact ⟨_, _, _, k3, k2.trans k4⟩
 ·obtain ⟨ρ2, k5, k6⟩ := atHead_rel h2 k3
  exact ⟨_, _, _, k5, k2.trans (k4.trans k6)⟩

def Comp (P : Program) (m : Nat → Option Nat) (nt : Nat) : Code → K → Prop
 | .skip, .skip => True
 | .region _ ops draw, .region kl draw' => draw' = draw ∧ All2 (OpOK P m nt ops) ops.toList kl ∧ (draw = true → RegOK P m nt ops kl)
 | .region _ _ _, .bad => True
 | .seq a b, .seq k l => Comp P m nt a k ∧ Comp P m nt b l
 | .cond c x y, .cond r k l => refOf m c = some r ∧ Comp P m nt x k ∧ Comp P m nt y l
 | .block id b, .block id' k => id' = id ∧ Comp P m nt b k
 | .loop b, .loop _ k => Comp P m nt b k
 | .exit id, .exit id' => id' = id
 | .scope b, .scope k => Comp P m nt b k
 | .label l, .label l' => l' = l
 | .goto l, .goto l' => l' = l
 | .ret, .ret => True
 | c, .pre _ k => Comp P m nt c k
 | _, _ => False

theorem comp_pre {c : Code} {t : Trim} {b : K} : Comp P m nt c (.pre t b) = Comp P m nt c b := by cases c <;> rfl
theorem comp_find {l : Nat} : ∀ {k : K} {c : Code}, Comp P m nt c k → (findLabel c l = none ∧ findK k l = none) ∨ ∃ r kr, findLabel c l = some r ∧ findK k l = some kr ∧ Comp P m nt r kr := by
 intro k
 induction k with
 | seq ka kb iha ihb =>
  intro c h
  cases c <;> try (exact h.elim)
  simp only [findLabel, findK]
  rcases iha h.1 with ⟨h1, h2⟩ | ⟨r, kr, h1, h2, h3⟩
  ·rw [h1, h2]; exact ihb h.2
  ·rw [h1, h2]; exact .inr ⟨_, _, rfl, rfl, h3, h.2⟩
 | label l2 =>
  intro c h
  cases c <;> try (exact h.elim)
  rename_i l'
  have : l2 = l' := h
  subst this
  simp only [findLabel, findK]
  by_cases e : l2 = l
  ·subst e; exact .inr ⟨.skip, .skip, by simp, by simp, trivial⟩
  ·exact .inl ⟨by simp [e], by simp [e]⟩
 | pre t b ih => intro c h; rw [comp_pre] at h; exact ih h
 | _ => intro c h; cases c <;> first | exact h.elim | exact .inl ⟨rfl, rfl⟩

def exOf : Ex → Exit
 | .norm => .normal
 | .exit id => .exit id
 | .goto l => .goto l
 | .ret => .ret

/-- what comes behind a piece of code -/
def Behind (m : Nat → Option Nat) (nt n0 : Nat) (I O : Nat → Prop) (w : World) (ρ : Pl) (H : List Blk) (s' : St) (K : Act → World → Prop) : Prop :=
 ∀ I' O' w' ρ' a', CSt m nt n0 I' O' w' ρ' s' a' → CG n0 I O w ρ H I' O' w' ρ' s'.2 → K a' w'

/-- in a scope of body cb, what is left of it being rest -/
def ScW (P : Program) (cb rest : Code) (Q : Exit → Act → World → Prop) (a : Act) (w : World) : Prop :=
 ∀ (b : Frame) (k : List Item) (cs : List Frame), ∃ e a' w', Q e a' w' ∧ Arrives P (lone (b.at a (.code rest :: .inScope cb :: k)) cs w) b k cs e a' w'
def Exit.sc (P : Program) (cb : Code) (Q : Exit → Act → World → Prop) : Exit → Act → World → Prop
 | .goto l, a, w => match findLabel cb l with | some r => ScW P cb r Q a w | none => Q (.goto l) a w
 | e, a, w => Q e a w
theorem scW_of {cb rest : Code} (h : rest.wp P (Exit.sc P cb Q) a w) : ScW P cb rest Q a w := by
 intro b k cs
 obtain ⟨e, a₁, w₁, hq, harr⟩ := h b (.inScope cb :: k) cs
 cases e with
 | normal => exact ⟨.normal, a₁, w₁, hq, Steps.trans harr (.one step_inScope)⟩
 | exit id => exact ⟨.exit id, a₁, w₁, hq, fun k' hk => harr k' (by simp [exitTo, hk])⟩
 | goto l =>
  simp only [Exit.sc] at hq
  cases hf : findLabel cb l with
  | none =>
   rw [hf] at hq
   exact ⟨.goto l, a₁, w₁, hq, fun k' hk => harr k' (by simp [gotoIn, hf, hk])⟩
  | some r =>
   rw [hf] at hq
   obtain ⟨e₂, a₂, w₂, hq₂, harr₂⟩ := hq b k cs
   exact ⟨e₂, a₂, w₂, hq₂, .of_steps (harr _ (by simp [gotoIn, hf])) harr₂⟩
 | ret => exact ⟨_, a₁, w₁, hq, harr⟩
 | panic ch => exact ⟨_, a₁, w₁, hq, harr⟩
 | outgrown => exact ⟨_, a₁, w₁, hq, harr⟩
theorem wp_scope_scW {cb : Code} (h : ScW P cb cb Q a w) : (Code.scope cb).wp P Q a w := by
 intro b k cs
 obtain ⟨e, a₁, w₁, hq, harr⟩ := h b k cs
 exact ⟨e, a₁, w₁, hq, .of_steps (.one step_scope) harr⟩

/-- code does what the evaluator says -/
def SndC (P : Program) (m : Nat → Option Nat) (nt n0 : Nat) (c : Code) (s : St) (r : Ex) (s' : St) : Prop :=
 ∀ I O w ρ a, CSt m nt n0 I O w ρ s a → ∀ Q : Exit → Act → World → Prop, Behind m nt n0 I O w ρ s.2 s' (Q (exOf r)) → c.wp P Q a w

theorem Behind.trans {H1 : List Blk} {s' : St} {K : Act → World → Prop} {I' O' : Nat → Prop} {w' : World} {ρ' : Pl} (h : Behind m nt n0 I O w ρ H s' K) (hc : CG n0 I O w ρ H I' O' w' ρ' H1) : Behind m nt n0 I' O' w' ρ' H1 s' K :=
 fun I2 O2 w2 ρ2 a2 h1 h2 => h I2 O2 w2 ρ2 a2 h1 (hc.trans h2)

theorem ev_sound (hm : P.follows .mixedOrders = true) (hcall : CallSnd P m call) : ∀ (n : Nat) (k : K) (s : St) (r : Ex) (s' : St), ev call own n0 n k s = some (r, s') →
  (∀ c, Comp P m nt c k → SndC P m nt n0 c s r s') ∧
  (∀ keep b, k = .loop keep b → ∃ N, ∀ c, Comp P m nt c b → ∀ I O w ρ a, CSt m nt n0 I O w ρ s a → ∀ Q : Exit → Act → World → Prop, Behind m nt n0 I O w ρ s.2 s' (Q (exOf r)) → Code.rounds P c Q N a w) ∧
  (∀ x b, k = .rsm x b → ∀ cx cb, Comp P m nt cx x → Comp P m nt cb b → ∀ I O w ρ a, CSt m nt n0 I O w ρ s a → ∀ Q : Exit → Act → World → Prop, Behind m nt n0 I O w ρ s.2 s' (Q (exOf r)) → ScW P cb cx Q a w) := by
 intro n
 induction n with
 | zero => intro k s r s' h; simp [ev] at h
 | succ n ih =>
  intro k s r s' h
  have hloop : ∀ keep b, k = .loop keep b → ∃ N, ∀ c, Comp P m nt c b → ∀ I O w ρ a, CSt m nt n0 I O w ρ s a → ∀ Q : Exit → Act → World → Prop, Behind m nt n0 I O w ρ s.2 s' (Q (exOf r)) → Code.rounds P c Q N a w := by
   intro keep b e
   subst e
   simp only [ev] at h
   cases hs : trim n0 keep s with
   | none => rw [hs] at h; cases h
   | some s0 =>
    rw [hs] at h
    simp only [] at h
    cases hb : ev call own n0 n b s0 with
    | none => rw [hb] at h; cases h
    | some p =>
     obtain ⟨r1, s1⟩ := p
     rw [hb] at h
     have hbody := (ih b s0 r1 s1 hb).1
     have other : (r1, s1) = (r, s') → r1 ≠ .norm → ∃ N, ∀ c, Comp P m nt c b → ∀ I O w ρ a, CSt m nt n0 I O w ρ s a → ∀ Q : Exit → Act → World → Prop, Behind m nt n0 I O w ρ s.2 s' (Q (exOf r)) → Code.rounds P c Q N a w := by
      intro e1 hne
      injection e1 with e1 e2
      subst e1 e2
      refine ⟨1, fun c hc I O w ρ a hS Q hQ => ?_⟩
      obtain ⟨I1, O1, ρ', h1, h2⟩ := trim_rel hs hS
      refine hbody c hc I1 O1 w ρ' a h1 _ (fun I' O' w' ρ' a' h3 h4 => ?_)
      have := hQ I' O' w' ρ' a' h3 (h2.trans h4)
      cases r1 <;> first | exact absurd rfl hne | exact this
     cases r1 with
     | norm =>
      simp only [] at h
      obtain ⟨N, hN⟩ := (ih (.loop keep b) s1 r s' h).2.1 keep b rfl
      refine ⟨N + 1, fun c hc I O w ρ a hS Q hQ => ?_⟩
      obtain ⟨I1, O1, ρ', h1, h2⟩ := trim_rel hs hS
      refine hbody c hc I1 O1 w ρ' a h1 _ (fun I' O' w' ρ' a' h3 h4 => ?_)
      exact hN c hc I' O' w' ρ' a' h3 Q (hQ.trans (h2.trans h4))
     | exit id => exact other (by simpa using h) (by simp)
     | goto l => exact other (by simpa using h) (by simp)
     | ret => exact other (by simpa using h) (by simp)
  have hscope : ∀ x b, k = .rsm x b → ∀ cx cb, Comp P m nt cx x → Comp P m nt cb b → ∀ I O w ρ a, CSt m nt n0 I O w ρ s a → ∀ Q : Exit → Act → World → Prop, Behind m nt n0 I O w ρ s.2 s' (Q (exOf r)) → ScW P cb cx Q a w := by
   intro x b e cx cb hcx hcb I O w ρ a hS Q hQ
   subst e
   simp only [ev] at h
   cases hb : ev call own n0 n x s with
   | none => rw [hb] at h; cases h
   | some p =>
    obtain ⟨r1, s1⟩ := p
    rw [hb] at h
    have hbody := (ih x s r1 s1 hb).1
    refine scW_of (hbody cx hcx I O w ρ a hS _ (fun I' O' w' ρ' a' h3 h4 => ?_))
    cases r1 with
    | goto l =>
     simp only [] at h
     show (match findLabel cb l with | some r => ScW P cb r Q a' w' | none => Q (.goto l) a' w')
     rcases comp_find (l := l) hcb with ⟨g1, g2⟩ | ⟨rc, rk, g1, g2, g3⟩
     ·rw [g2] at h
      rw [g1]
      simp only [Option.some.injEq, Prod.mk.injEq] at h
      obtain ⟨rfl, rfl⟩ := h
      exact hQ I' O' w' ρ' a' h3 h4
     ·rw [g2] at h
      rw [g1]
      exact (ih _ s1 r s' h).2.2 rk b rfl rc cb g3 hcb I' O' w' ρ' a' h3 Q (hQ.trans h4)
    | norm =>
     simp only [Option.some.injEq, Prod.mk.injEq] at h
     obtain ⟨rfl, rfl⟩ := h
     exact hQ I' O' w' ρ' a' h3 h4
    | exit id =>
     simp only [Option.some.injEq, Prod.mk.injEq] at h
     obtain ⟨rfl, rfl⟩ := h
     exact hQ I' O' w' ρ' a' h3 h4
    | ret =>
     simp only [Option.some.injEq, Prod.mk.injEq] at h
     obtain ⟨rfl, rfl⟩ := h
     exact hQ I' O' w' ρ' a' h3 h4
  refine ⟨?_, hloop, hscope⟩
  intro c hc I O w ρ a hS Q hQ
  cases k with
  | skip =>
   cases c <;> try (exact hc.elim)
   simp only [ev, Option.some.injEq, Prod.mk.injEq] at h
   obtain ⟨rfl, rfl⟩ := h
   exact wp_skip (hQ _ _ _ _ _ hS (.refl hS.len))
  | label l =>
   cases c <;> try (exact hc.elim)
   simp only [ev, Option.some.injEq, Prod.mk.injEq] at h
   obtain ⟨rfl, rfl⟩ := h
   exact wp_label (hQ _ _ _ _ _ hS (.refl hS.len))
  | exit id =>
   cases c <;> try (exact hc.elim)
   have : id = _ := hc
   subst this
   simp only [ev, Option.some.injEq, Prod.mk.injEq] at h
   obtain ⟨rfl, rfl⟩ := h
   exact wp_exit (hQ _ _ _ _ _ hS (.refl hS.len))
  | goto l =>
   cases c <;> try (exact hc.elim)
   have : l = _ := hc
   subst this
   simp only [ev, Option.some.injEq, Prod.mk.injEq] at h
   obtain ⟨rfl, rfl⟩ := h
   exact wp_goto (hQ _ _ _ _ _ hS (.refl hS.len))
  | ret =>
   cases c <;> try (exact hc.elim)
   simp only [ev, Option.some.injEq, Prod.mk.injEq] at h
   obtain ⟨rfl, rfl⟩ := h
   exact wp_ret (hQ _ _ _ _ _ hS (.refl hS.len))
  | bad => simp [ev] at h
  | pre t b =>
   simp only [ev] at h
   cases hs : trim n0 t s with
   | none => rw [hs] at h; cases h
   | some s1 =>
    rw [hs] at h
    obtain ⟨I1, O1, ρ', h1, h2⟩ := trim_rel hs hS
    have hc' : Comp P m nt c b := by rw [← comp_pre]; exact hc
    exact (ih b s1 r s' h).1 c hc' I1 O1 w ρ' a h1 Q (hQ.trans h2)
  | region kl draw =>
   cases c <;> try (exact hc.elim)
   rename_i id ops draw'
   obtain ⟨rfl, h1, h2⟩ := hc
   simp only [ev, Option.map_eq_some_iff, Prod.mk.injEq] at h
   obtain ⟨⟨e1, H1⟩, h3, rfl, rfl⟩ := h
   have fin : ∀ I' O' w' ρ' a', SRel m nt n0 I' O' w' ρ' e1 H1 a' → CG n0 I O w ρ s.2 I' O' w' ρ' H1 → Q .normal a' w' := fun I' O' w' ρ' a' h4 h5 => hQ I' O' w' ρ' a' h4.toC h5
   cases draw with
   | true => exact any_region hm (h2 rfl) hcall (by simpa using h3) hS.srel fin
   | false => exact wp_region_list (seq_region hcall 0 h1 h3 hS.srel fin)
  | seq k l =>
   cases c <;> try (exact hc.elim)
   rename_i x y
   simp only [ev] at h
   cases hb : ev call own n0 n k s with
   | none => rw [hb] at h; cases h
   | some p =>
    obtain ⟨r1, s1⟩ := p
    rw [hb] at h
    refine wp_seq ((ih k s r1 s1 hb).1 x hc.1 I O w ρ a hS _ (fun I' O' w' ρ' a' h3 h4 => ?_))
    cases r1 with
    | norm => exact (ih l s1 r s' h).1 y hc.2 I' O' w' ρ' a' h3 Q (hQ.trans h4)
    | exit id => simp only [Option.some.injEq, Prod.mk.injEq] at h; obtain ⟨rfl, rfl⟩ := h; exact hQ _ _ _ _ _ h3 h4
    | goto l => simp only [Option.some.injEq, Prod.mk.injEq] at h; obtain ⟨rfl, rfl⟩ := h; exact hQ _ _ _ _ _ h3 h4
    | ret => simp only [Option.some.injEq, Prod.mk.injEq] at h; obtain ⟨rfl, rfl⟩ := h; exact hQ _ _ _ _ _ h3 h4
  | cond cr k l =>
   cases c <;> try (exact hc.elim)
   rename_i co x y
   obtain ⟨h1, h2, h3⟩ := hc
   simp only [ev] at h
   have hr := refOf_rel (x := co) (xs := [co]) h1 (.of (fun t => hS.srel.env t) hS.srel.heap.tab) (by simp)
   cases hv : cr.ev s.1 with
   | bool b =>
    rw [hv] at hr h
    generalize hx : a.eval co = X at hr
    cases hr
    cases b with
    | true => exact wp_cond_true hx ((ih k s r s' h).1 x h2 I O w ρ a hS Q hQ)
    | false => exact wp_cond_false hx ((ih l s r s' h).1 y h3 I O w ρ a hS Q hQ)
   | _ => rw [hv] at h; cases h
  | block id k =>
   cases c <;> try (exact hc.elim)
   rename_i id' x
   obtain ⟨rfl, h1⟩ := hc
   simp only [ev] at h
   cases hb : ev call own n0 n k s with
   | none => rw [hb] at h; cases h
   | some p =>
    obtain ⟨r1, s1⟩ := p
    rw [hb] at h
    refine wp_block ((ih k s r1 s1 hb).1 x h1 I O w ρ a hS _ (fun I' O' w' ρ' a' h3 h4 => ?_))
    cases r1 with
    | norm => simp only [Option.some.injEq, Prod.mk.injEq] at h; obtain ⟨rfl, rfl⟩ := h; exact hQ _ _ _ _ _ h3 h4
    | goto l => simp only [Option.some.injEq, Prod.mk.injEq] at h; obtain ⟨rfl, rfl⟩ := h; exact hQ _ _ _ _ _ h3 h4
    | ret => simp only [Option.some.injEq, Prod.mk.injEq] at h; obtain ⟨rfl, rfl⟩ := h; exact hQ _ _ _ _ _ h3 h4
    | exit id2 =>
     simp only [] at h
     show (if id2 = id then Q .normal a' w' else Q (.exit id2) a' w')
     split at h
     ·rename_i e1
      simp only [Option.some.injEq, Prod.mk.injEq] at h
      obtain ⟨rfl, rfl⟩ := h
      rw [if_pos e1]; exact hQ _ _ _ _ _ h3 h4
     ·rename_i e1
      simp only [Option.some.injEq, Prod.mk.injEq] at h
      obtain ⟨rfl, rfl⟩ := h
      rw [if_neg e1]; exact hQ _ _ _ _ _ h3 h4
  | loop keep k =>
   cases c <;> try (exact hc.elim)
   rename_i x
   obtain ⟨N, hN⟩ := hloop keep k rfl
   exact wp_loop_rounds N (hN x hc I O w ρ a hS Q hQ)
  | scope k =>
   cases c <;> try (exact hc.elim)
   rename_i x
   simp only [ev] at h
   exact wp_scope_scW ((ih _ s r s' h).2.2 k k rfl x x hc hc I O w ρ a hS Q hQ)
  | rsm x b => cases c <;> exact hc.elim
end Go.Proofs.YtchoafdpckknmaaDoorE
