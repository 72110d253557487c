/- A call's soundness. -/
import Derived.Test.YtgjbkgajkcgdfaaEvL
namespace Go.Proofs.YtgjbkgajkcgdfaaE
open Go
set_option linter.unusedSimpArgs false
set_option linter.unusedVariables false
variable {P : Program} {w : World} {m : Nat → Option Nat} {I O : Nat → Prop} {ρ : Pl} {H Hb : List Blk} {v : V} {e : Env} {a : Act} {call : CallF}
variable {L FL : List Nat} {Hc Hc' HbN : List Blk} {I' O' : Nat → Prop} {w' : World} {ρ' : Pl}

theorem callO_nil : ∀ k, ¬ callO O ρ Hb [] k := fun k h => by
  obtain ⟨_, i, hi, _⟩ := h
  simp at hi

theorem After.quiet (h : After [] I O w ρ H Hb Hc FL m I' O' w' ρ' Hc') (hp : ∀ (i : Nat) (b : Blk), H[i]? = some b → Hb[i]? = some b) (hH : HRel m I O w ρ Hb)
    (hfr : Hc'.any hasRsB = false) {d : Nat} (hm : Hc'.mapM (renB (backN [] H.length) d) = some HbN) (hHc : Hc = [])
    (hnew : ∀ (j : Nat) (b : Blk), HbN[j]? = some b → Hb[H.length + j]? = some b) (hnone : ∀ j, j < HbN.length → ρ (H.length + j) = none) :
    HRel m (retI false I I' (callO O ρ Hb []) w.heap.size) (retO false O (callO O ρ Hb []) I' O') w' (plB ρ ρ' H.length HbN.length 0) Hb ∧
      Grow H.length (H.length + HbN.length) I O w ρ (retI false I I' (callO O ρ Hb []) w.heap.size) (retO false O (callO O ρ Hb []) I' O') w' (plB ρ ρ' H.length HbN.length 0) := by
  obtain ⟨hl1, hl2⟩ := mapM_get hm
  have hn : Hc'.length = ([] : List Nat).length + HbN.length := by simp [hl1]
  have hnone' : ∀ i, H.length ≤ i → i < H.length + HbN.length → ρ i = none := fun i h1 h2 => by
    have := hnone (i - H.length) (by omega)
    rwa [show H.length + (i - H.length) = i by omega] at this
  have hcl : ∀ j, live Hc j → ∃ i, ([] : List Nat)[j]? = some i ∧ live Hb i := fun j hj => by
    obtain ⟨b, hb, _⟩ := hj; subst hHc; simp at hb
  have hFL : ∀ i, i ∈ FL → i ∉ ([] : List Nat) := fun i _ => by simp
  have hmono := h.mono hH hnone' (fr := false)
  have old : ∀ k, k < w.heap.size → w'.heap[k]? = w.heap[k]? := fun k hk => h.cg.ext.block k hk (callO_nil k)
  have own : ∀ k, O k → retO false O (callO O ρ Hb []) I' O' k := fun k hk => .inr ⟨hk, callO_nil k, by simp⟩
  refine ⟨⟨fun i j r hi hj li lj => ?_, fun i r hi => ?_, fun i r hi => ?_, h.own_lt hH, h.imm_lt hH, h.retDis hH⟩, ?_⟩
  · unfold plB at hi hj
    split at hi <;> split at hj
    · rename_i c1 c2
      obtain ⟨b1, e1, d1⟩ := li
      obtain ⟨b2, e2, d2⟩ := lj
      have key : ∀ i (b : Blk), (H.length ≤ i ∧ i < H.length + HbN.length) → Hb[i]? = some b → b ≠ .dead → live Hc' (([] : List Nat).length + (i - H.length)) := by
        intro i b hc hb hd
        obtain ⟨b', hb'⟩ : ∃ b', HbN[i - H.length]? = some b' := ⟨_, List.getElem?_eq_getElem (by omega)⟩
        have := hnew _ _ hb'
        rw [show H.length + (i - H.length) = i by omega, hb] at this
        injection this with this; subst this
        obtain ⟨b0, g1, g2⟩ := mapM_get' hm hb'
        exact ⟨b0, by simpa using g1, fun e => hd ((renB_dead g2).2 e)⟩
      have := h.rel.inj _ _ r hi hj (key i b1 c1 e1 d1) (key j b2 c2 e2 d2)
      simp at this; omega
    · have h1 := h.new (by simp) hi
      have h2 := hH.lt _ _ hj
      rcases h1 with h1 | h1
      · exact absurd h1 (callO_nil r)
      · omega
    · have h1 := h.new (by simp) hj
      have h2 := hH.lt _ _ hi
      rcases h1 with h1 | h1
      · exact absurd h1 (callO_nil r)
      · omega
    · exact hH.inj i j r hi hj li lj
  · unfold plB at hi
    split at hi
    · rename_i c1
      obtain ⟨b', hb'⟩ : ∃ b', HbN[i - H.length]? = some b' := ⟨_, List.getElem?_eq_getElem (by omega)⟩
      have e1 := hnew _ _ hb'
      rw [show H.length + (i - H.length) = i by omega] at e1
      obtain ⟨b0, g1, g2⟩ := mapM_get' hm hb'
      exact ⟨b', e1, h.brel hp hH hFL hcl rfl hn (by simp) (fun _ => hfr) hi (by simpa using g1) g2⟩
    · obtain ⟨b, hb, hB⟩ := hH.blk i r hi
      exact ⟨b, hb, hB.mono hmono own (old r (hH.lt _ _ hi))⟩
  · unfold plB at hi
    split at hi
    · exact h.rel.lt _ _ hi
    · exact Nat.lt_of_lt_of_le (hH.lt _ _ hi) h.cg.ext.size
  · refine ⟨fun k hk => .inl hk, fun k hk => ?_, own, h.retO', hmono.pl, fun i r hi => ?_, h.cg.ext.size, old, h.cg.ext.os, h.cg.ext.tape, h.cg.ext.output⟩
    · rcases hk with h1 | ⟨h1, h2 | h2⟩ | ⟨h1, _⟩
      · exact .inl h1
      · exact absurd h2 (callO_nil k)
      · exact .inr h2
      · cases h1
    · unfold plB at hi
      split at hi
      · rename_i c1
        rcases h.new (by simp) hi with h1 | h1
        · exact absurd h1 (callO_nil r)
        · exact .inr ⟨c1.1, c1.2, h1⟩
      · exact .inl hi

theorem zip_map_fst {α β : Type} : ∀ (l : List α) (r : List β), r.length = l.length → (l.zip r).map (·.1) = l
  | [], r, h => by simp
  | a :: l, [], h => by simp at h
  | a :: l, b :: r, h => by simp [zip_map_fst l r (by simpa using h)]
theorem putBack_in {L : List Nat} {N H1 : List Blk} (hL : L.Nodup) (hlen : N.length = L.length) (hb : ∀ i, i ∈ L → i < H1.length) {j i : Nat} {b : Blk} (hi : L[j]? = some i) (hN : N[j]? = some b) : (putBack H1 (L.zip N))[i]? = some b := by
  rw [putBack_get _ _ (by rw [zip_map_fst _ _ hlen]; exact hL) (fun p hp => hb _ (List.of_mem_zip hp).1)]
  have hz : (L.zip N)[j]? = some (i, b) := by rw [List.getElem?_zip_eq_some]; exact ⟨hi, hN⟩
  cases hf : (L.zip N).find? (fun p => p.1 == i) with
  | none =>
    rw [List.find?_eq_none] at hf
    exact absurd (by simp) (hf (i, b) (List.mem_of_getElem? hz))
  | some p =>
    have h1 := List.find?_some hf
    have h2 := List.mem_of_find?_eq_some hf
    obtain ⟨k, hk⟩ := List.mem_iff_getElem?.1 h2
    obtain ⟨q1, q2⟩ := List.getElem?_zip_eq_some.1 (show (L.zip N)[k]? = some (p.1, p.2) from hk)
    have he : p.1 = i := by simpa using h1
    rw [he] at q1
    have hkj : k = j := by
      obtain ⟨i1, e1⟩ := List.getElem?_eq_some_iff.1 hi
      obtain ⟨i2, e2⟩ := List.getElem?_eq_some_iff.1 q1
      have hpw := List.pairwise_iff_getElem.1 hL
      rcases Nat.lt_trichotomy k j with hlt | heq | hgt
      · exact absurd (e2.trans e1.symm) (hpw k j i2 i1 hlt)
      · exact heq
      · exact absurd (e1.trans e2.symm) (hpw j k i1 i2 hgt)
    subst hkj
    rw [hN] at q2; injection q2 with q2
    simp [q2]
theorem putBack_out {L : List Nat} {N H1 : List Blk} (hL : L.Nodup) (hlen : N.length = L.length) (hb : ∀ i, i ∈ L → i < H1.length) {i : Nat} (hi : i ∉ L) : (putBack H1 (L.zip N))[i]? = H1[i]? := by
  rw [putBack_get _ _ (by rw [zip_map_fst _ _ hlen]; exact hL) (fun p hp => hb _ (List.of_mem_zip hp).1)]
  cases hf : (L.zip N).find? (fun p => p.1 == i) with
  | none => rfl
  | some p =>
    have h1 := List.find?_some hf
    have h2 := List.mem_of_find?_eq_some hf
    have he : p.1 = i := by simpa using h1
    exact absurd (he ▸ (List.of_mem_zip (show (p.1, p.2) ∈ _ from h2)).1) hi

/-- what stays alive was alive -/
def Alive (H H' : List Blk) : Prop := H.length ≤ H'.length ∧ ∀ j, j < H.length → live H' j → live H j

theorem After.gen (h : After L I O w ρ H H Hc FL m I' O' w' ρ' Hc') (hH : HRel m I O w ρ H) (hL : L.Nodup) (hbL : ∀ i, i ∈ L → i < H.length) (hFL : ∀ i, i ∈ FL → i ∉ L)
    {fr : Bool} (hfr : fr = false → Hc'.any hasRsB = false) {d : Nat} (hm : Hc'.mapM (renB (backN L H.length) d) = some HbN) (hge : L.length ≤ Hc'.length)
    (hcl : ∀ j, live Hc j → ∃ i, L[j]? = some i ∧ live H i) (hHc : Hc.length = L.length) :
    HRel m (retI fr I I' (callO O ρ H L) w.heap.size) (retO fr O (callO O ρ H L) I' O') w' (plB ρ ρ' H.length (HbN.length - L.length) L.length)
        (putBack (if fr then freeze FL H else H) (L.zip (HbN.take L.length)) ++ HbN.drop L.length) ∧
      GS H.length I O w ρ (retI fr I I' (callO O ρ H L) w.heap.size) (retO fr O (callO O ρ H L) I' O') w' (plB ρ ρ' H.length (HbN.length - L.length) L.length) ∧
      Alive H (putBack (if fr then freeze FL H else H) (L.zip (HbN.take L.length)) ++ HbN.drop L.length) := by
  obtain ⟨hl1, hl2⟩ := mapM_get hm
  have hn : Hc'.length = L.length + (HbN.length - L.length) := by omega
  have hnone' : ∀ i, H.length ≤ i → i < H.length + (HbN.length - L.length) → ρ i = none := fun i h1 h2 => hH.none h1
  have hmono := h.mono hH hnone' (fr := fr)
  generalize hH1 : (if fr then freeze FL H else H) = H1
  have hH1len : H1.length = H.length := by subst hH1; cases fr <;> simp [freeze_len]
  have hb1 : ∀ i, i ∈ L → i < H1.length := fun i hi => by rw [hH1len]; exact hbL i hi
  have htl : (HbN.take L.length).length = L.length := by simp; omega
  have hpl : (putBack H1 (L.zip (HbN.take L.length))).length = H.length := by rw [putBack_len, hH1len]
  generalize hF : putBack H1 (L.zip (HbN.take L.length)) ++ HbN.drop L.length = F
  have old : ∀ i, i < H.length → F[i]? = (putBack H1 (L.zip (HbN.take L.length)))[i]? := fun i hi => by
    subst hF; rw [List.getElem?_append_left (by omega)]
  have fresh : ∀ i, H.length ≤ i → F[i]? = HbN[L.length + (i - H.length)]? := fun i hi => by
    subst hF; rw [List.getElem?_append_right (by omega), List.getElem?_drop, hpl]
  -- a block that the callee was handed
  have inL : ∀ (k i : Nat), L[k]? = some i → ∃ b', Hc'[k]? = some b' ∧ ∃ b, renB (backN L H.length) d b' = some b ∧ F[i]? = some b := by
    intro k i hk
    have hkl : k < L.length := (List.getElem?_eq_some_iff.1 hk).1
    obtain ⟨b, hb⟩ : ∃ b, HbN[k]? = some b := ⟨_, List.getElem?_eq_getElem (by omega)⟩
    obtain ⟨b', g1, g2⟩ := mapM_get' hm hb
    refine ⟨b', g1, b, g2, ?_⟩
    rw [old i (hbL i (List.mem_of_getElem? hk))]
    exact putBack_in hL htl hb1 hk (by rw [List.getElem?_take_of_lt hkl]; exact hb)
  have outL : ∀ (i : Nat), i < H.length → i ∉ L → F[i]? = H1[i]? := fun i hi hn => by
    rw [old i hi]; exact putBack_out hL htl hb1 hn
  have H1live : ∀ i, live H1 i → live H i := by
    intro i ⟨b, hb, hd⟩
    subst hH1
    cases fr with
    | false => exact ⟨b, hb, hd⟩
    | true =>
      simp only [if_true, freeze_get] at hb
      cases hi : H[i]? with
      | none => rw [hi] at hb; simp at hb
      | some b0 =>
        refine ⟨b0, hi, fun e => ?_⟩
        subst e
        rw [hi] at hb
        simp at hb
        exact hd hb.symm
  have liveL : ∀ (k i : Nat), L[k]? = some i → live F i → live Hc' k := by
    intro k i hk ⟨c, hc, hd⟩
    obtain ⟨b', g1, b, g2, g3⟩ := inL k i hk
    rw [g3] at hc; injection hc with hc; subst hc
    exact ⟨b', g1, fun e => hd ((renB_dead g2).2 e)⟩
  have liveOld : ∀ i, i < H.length → live F i → live H i := by
    intro i hi hl
    by_cases hm : i ∈ L
    · obtain ⟨k, hk⟩ := List.mem_iff_getElem?.1 hm
      have h1 := liveL k i hk hl
      obtain ⟨i', q1, q2⟩ := hcl k (h.cg.live k (List.getElem?_eq_some_iff.1 hk).1 h1)
      rw [hk] at q1; injection q1 with q1; subst q1
      exact q2
    · obtain ⟨b, hb, hd⟩ := hl
      rw [outL i hi hm] at hb
      exact H1live i ⟨b, hb, hd⟩
  have liveNew : ∀ i, H.length ≤ i → live F i → live Hc' (L.length + (i - H.length)) := by
    intro i hi ⟨b, hb, hd⟩
    rw [fresh i hi] at hb
    obtain ⟨b', g1, g2⟩ := mapM_get' hm hb
    exact ⟨b', g1, fun e => hd ((renB_dead g2).2 e)⟩
  have plc : ∀ (k i : Nat), L[k]? = some i → ρ' k = ρ i := by
    intro k i hk
    rw [h.cg.pl k (List.getElem?_eq_some_iff.1 hk).1]
    simp [plL, hk]
  have mixed : ∀ i j r, i < H.length → H.length ≤ j → ρ i = some r → ρ' (L.length + (j - H.length)) = some r → live F i → live F j → False := by
    intro i j r h1 h2 h3 h4 h5 h6
    rcases h.new (by omega) h4 with ⟨_, i2, q1, q2, q3⟩ | q
    · have := hH.inj i i2 r h3 q2 (liveOld i h1 h5) q3
      subst this
      obtain ⟨k, hk⟩ := List.mem_iff_getElem?.1 q1
      have := h.rel.inj k _ r ((plc k i hk).trans h3) h4 (liveL k i hk h5) (liveNew j h2 h6)
      have := (List.getElem?_eq_some_iff.1 hk).1
      omega
    · have := hH.lt _ _ h3; omega
  have plin : ∀ i r, plB ρ ρ' H.length (HbN.length - L.length) L.length i = some r → (i < H.length ∧ ρ i = some r) ∨ (H.length ≤ i ∧ ρ' (L.length + (i - H.length)) = some r) := by
    intro i r hi
    unfold plB at hi
    split at hi
    · rename_i c; exact .inr ⟨c.1, hi⟩
    · exact .inl ⟨hH.dom hi, hi⟩
  refine ⟨⟨fun i j r hi hj li lj => ?_, fun i r hi => ?_, fun i r hi => ?_, h.own_lt hH, h.imm_lt hH, h.retDis hH⟩, ⟨hmono, h.ext, h.retI' prefix_refl hH, h.retO', fun i r hi => ?_⟩, ⟨by rw [← hF, List.length_append, hpl]; omega, liveOld⟩⟩
  · rcases plin i r hi with ⟨i1, i2⟩ | ⟨i1, i2⟩ <;> rcases plin j r hj with ⟨j1, j2⟩ | ⟨j1, j2⟩
    · exact hH.inj i j r i2 j2 (liveOld i i1 li) (liveOld j j1 lj)
    · exact (mixed i j r i1 j1 i2 j2 li lj).elim
    · exact (mixed j i r j1 i1 j2 i2 lj li).elim
    · have := h.rel.inj _ _ r i2 j2 (liveNew i i1 li) (liveNew j j1 lj)
      omega
  · rcases plin i r hi with ⟨i1, i2⟩ | ⟨i1, i2⟩
    · by_cases hmem : i ∈ L
      · obtain ⟨k, hk⟩ := List.mem_iff_getElem?.1 hmem
        obtain ⟨b', g1, b, g2, g3⟩ := inL k i hk
        exact ⟨b, g3, h.brel prefix_refl hH hFL hcl rfl hn hbL hfr ((plc k i hk).trans i2) g1 g2⟩
      · rw [outL i i1 hmem]
        obtain ⟨b, hb, hB⟩ := hH.blk i r i2
        have hlive : b ≠ .dead → w'.heap[r]? = w.heap[r]? := fun hd => h.cg.ext.block r (hH.lt _ _ i2) (fun hO => by
          obtain ⟨_, i3, q1, q2, q3⟩ := hO
          have := hH.inj i i3 r i2 q2 ⟨b, hb, hd⟩ q3
          subst this; exact hmem q1)
        have hOc : b ≠ .dead → ¬ callO O ρ H L r := fun hd hO => by
          obtain ⟨_, i3, q1, q2, q3⟩ := hO
          have := hH.inj i i3 r i2 q2 ⟨b, hb, hd⟩ q3
          subst this; exact hmem q1
        have lent : b ≠ .dead → O r → I' r → i ∈ FL ∧ ∃ ro c, b = .cells ro c := by
          intro hd hO hI
          rcases h.cg.imm' r hI with (h1 | ⟨i3, ro, c, g1, g2, g3⟩) | h1 | h1
          · exact absurd hO (hH.dis r h1)
          · have := hH.inj i i3 r i2 g2 ⟨b, hb, hd⟩ ⟨_, g3, by simp⟩
            subst this
            rw [hb] at g3; injection g3 with g3
            exact ⟨g1, ro, c, g3⟩
          · exact absurd h1 (hOc hd)
          · have := hH.lt _ _ i2; omega
        have same : H1[i]? = some b ∨ (fr = true ∧ i ∈ FL ∧ ∃ ro c, b = .cells ro c ∧ H1[i]? = some (.cells true c)) := by
          subst hH1
          cases fr with
          | false => exact .inl hb
          | true =>
            simp only [if_true, freeze_get, hb, Option.map_some]
            by_cases hc : FL.contains i = true
            · simp only [hc, if_true]
              cases b with
              | cells ro c => exact .inr ⟨by simp, by simpa using hc, ro, c, rfl, rfl⟩
              | iter s p => exact .inl rfl
              | dead => exact .inl rfl
            · simp only [hc, if_false]; exact .inl (by simp)
        by_cases hd : b = .dead
        · subst hd
          rcases same with s | ⟨_, _, ro, c, q, _⟩
          · exact ⟨.dead, s, trivial⟩
          · cases q
        rcases same with s | ⟨s1, s2, ro, c, s3, s4⟩
        · refine ⟨b, s, ?_⟩
          by_cases hfi : fr = true ∧ i ∈ FL ∧ ∃ ro c, b = .cells ro c
          · obtain ⟨f1, f2, ro, c, f3⟩ := hfi
            subst f3 f1
            have : ro = true := by
              rw [← hH1] at s
              have hc : FL.contains i = true := by simpa using f2
              simp only [if_true, freeze_get, hb, Option.map_some, hc] at s
              injection s with s; injection s with s _; exact s.symm
            subst this
            obtain ⟨cs, e, f, q1, q2, q3, q4, q5, q6, q7⟩ := hB
            have hbl := hlive hd
            exact ⟨cs, e, f, hbl.trans q1, fun o => (frozen?_same (a := ⟨r, o, none⟩) hbl).trans (q2 o), q3, q4, fun j v x hv hx => hmono.relC (q5 j v x hv hx), fun e => (by cases e), fun e => .inl (q7 e)⟩
          · refine (hB.mono hmono (O' := fun k => O k) (fun k h => h) (hlive hd)).weaken (fun k h => h) (fun _ hO => ?_)
            refine .inr ⟨hO, hOc hd, fun hc => ?_⟩
            obtain ⟨f1, f2⟩ := lent hd hO hc.2
            exact hfi ⟨hc.1, f1, f2⟩
        · subst s3 s1
          refine ⟨_, s4, ?_⟩
          obtain ⟨cs, e, f, q1, q2, q3, q4, q5, q6, q7⟩ := hB
          have hbl := hlive hd
          refine ⟨cs, e, f, hbl.trans q1, fun o => (frozen?_same (a := ⟨r, o, none⟩) hbl).trans (q2 o), q3, q4, fun j v x hv hx => hmono.relC (q5 j v x hv hx), fun e => (by cases e), fun _ => ?_⟩
          exact .inr (.inr ⟨rfl, h.cg.imm r (.inr ⟨i, ro, c, s2, i2, hb⟩)⟩)
    · have hd := h.rel.dom i2
      obtain ⟨b, hb⟩ : ∃ b, HbN[L.length + (i - H.length)]? = some b := ⟨_, List.getElem?_eq_getElem (by omega)⟩
      obtain ⟨b', g1, g2⟩ := mapM_get' hm hb
      exact ⟨b, (fresh i i1).trans hb, h.brel prefix_refl hH hFL hcl rfl hn hbL hfr i2 g1 g2⟩
  · rcases plin i r hi with ⟨i1, i2⟩ | ⟨i1, i2⟩
    · exact Nat.lt_of_lt_of_le (hH.lt _ _ i2) h.cg.ext.size
    · exact h.rel.lt _ _ i2
  · rcases plin i r hi with ⟨i1, i2⟩ | ⟨i1, i2⟩
    · exact .inl i2
    · exact .inr ⟨i1, (h.new (by omega) i2).imp (fun h => h.1) id⟩
end Go.Proofs.YtgjbkgajkcgdfaaE
