/- The law: every event keeps the relation. -/
import Derived.Test.YthigfakjiknhcaaDoorTysa
namespace Go.Proofs.YthigfakjiknhcaaDoorT
open Go Go.Proofs Go.RowKit
set_option linter.unusedSimpArgs false
set_option linter.unusedVariables false
theorem sayS_eq (σ : St) (ts : List (Option Tm)) : sayS σ ts = { σ with ks := (sayS σ ts).ks } := by
  unfold sayS
  split <;> rfl
theorem asks_inv {σ : St} (h : Inv σ) (x : Ev) : Inv (asksF σ x).2 := by
  have ok' := asks_ok h.ok x
  unfold asksF at ok' ⊢
  cases hi : inO σ.r x.i 0 with
  | none => exact h
  | some k =>
    obtain ⟨e, he, hst, _⟩ := inO_some hi
    rw [hi] at ok'
    simp only [nth_get he] at ok' ⊢
    split
    · rename_i hc
      rw [if_pos hc] at ok'
      split
      · rename_i hs
        rw [if_pos hs] at ok'
        obtain ⟨q1, q2⟩ := sayS_mem hs
        obtain ⟨m, hm⟩ := q1 _ (List.mem_singleton.2 rfl)
        rw [sayS_eq] at ok' ⊢
        refine h.turnR (e := e) he (by omega) rfl ok' fun y hy => ?_
        rcases q2 y hy with hy | ⟨t, ht, hy⟩
        · exact Or.inl hy
        · have ht := List.mem_singleton.1 ht
          rw [hm] at ht
          cases ht
          obtain ⟨o, ρ, ho, hρ, rfl⟩ := mkP_is hm
          rw [h.ro k e he] at ho
          cases ho
          simp only [leaves, List.mem_append] at hy
          rcases hy with hy | hy
          · exact Or.inr (atom_leaf rfl (by decide) _ y hy)
          · obtain ⟨a, p, h1, h2, rfl⟩ := mkS_is hρ
            cases h1
            exact Or.inr (Or.inr (Or.inl (pwlock_leaf y hy)))
      · exact h
    · exact h
theorem tells_inv {σ : St} (h : Inv σ) (x : Ev) : Inv (tellsF σ x).2 := by
  have ok' := tells_ok h.ok x
  unfold tellsF at ok' ⊢
  cases hi : inO σ.r x.i 1 with
  | none => exact h
  | some k =>
    obtain ⟨e, he, hst, _⟩ := inO_some hi
    rw [hi] at ok'
    simp only [nth_get he] at ok' ⊢
    split
    · rename_i hc
      rw [if_pos hc] at ok'
      split
      · rename_i hsm
        rw [if_pos hsm] at ok'
        split
        · rename_i hs
          rw [if_pos hs] at ok'
          obtain ⟨q1, q2⟩ := sayS_mem hs
          obtain ⟨m, hm⟩ := q1 _ (List.mem_singleton.2 rfl)
          rw [sayS_eq] at ok' ⊢
          refine h.turnR (e := e) he (by omega) rfl ok' fun y hy => ?_
          rcases q2 y hy with hy | ⟨t, ht, hy⟩
          · exact Or.inl hy
          · have ht := List.mem_singleton.1 ht
            rw [hm] at ht
            cases ht
            obtain ⟨ρ, ν, η, _, _, _, rfl⟩ := binds_some hm
            simp only [leaves, List.mem_singleton] at hy
            refine Or.inr (Or.inr (Or.inr ⟨{ e with st := 2 }, List.mem_of_getElem? (i := k) ?_, rfl, _, hm, hy⟩))
            rw [List.getElem?_set, if_pos rfl, if_pos (List.getElem?_eq_some_iff.1 he).1]
        · exact h
      · rename_i hsm
        rw [if_neg hsm] at ok'
        exact h.turnR (ks := σ.ks) (e := e) he (by omega) rfl ok' fun y hy => Or.inl hy
    · exact h
theorem proves_inv {σ : St} (h : Inv σ) (x : Ev) : Inv (provesF σ x).2 := by
  have ok' := proves_ok h.ok x
  unfold provesF at ok' ⊢
  cases hi : inO σ.s x.i 0 with
  | none => exact h
  | some k =>
    obtain ⟨e, he, hst, _⟩ := inO_some hi
    rw [hi] at ok'
    simp only [nth_get he] at ok' ⊢
    split
    · rename_i hc
      rw [if_pos hc] at ok'
      split
      · rename_i hsm
        rw [if_pos hsm] at ok'
        split
        · rename_i hs
          rw [if_pos hs] at ok'
          obtain ⟨q1, q2⟩ := sayS_mem hs
          obtain ⟨m, hm⟩ := q1 _ (List.mem_singleton.2 rfl)
          rw [sayS_eq] at ok' ⊢
          refine h.turnS (e := e) he rfl ok' (fun y hy => ?_) (fun h2 => by cases h2)
          rcases q2 y hy with hy | ⟨t, ht, hy⟩
          · exact Or.inl hy
          · have ht := List.mem_singleton.1 ht
            rw [hm] at ht
            cases ht
            obtain ⟨a, p, h1, h2, rfl⟩ := mkS_is hm
            cases h1
            exact Or.inr (Or.inr (Or.inl (pwlock_leaf y hy)))
        · exact h
      · rename_i hsm
        rw [if_neg hsm] at ok'
        exact h.turnS (ks := σ.ks) (e := e) he rfl ok' (fun y hy => Or.inl hy) (fun h2 => by cases h2)
    · exact h
theorem serves_inv {σ : St} (h : Inv σ) (x : Ev) : Inv (servesF σ x).2 := by
  have ok' := serves_ok h.ok x
  unfold servesF at ok' ⊢
  split
  · exact h
  · rename_i hn
    rw [if_neg hn] at ok'
    split
    · rename_i hs
      rw [if_pos hs] at ok'
      have hC : certB x.h = true := by cases hh : certB x.h with | true => rfl | false => exact absurd (Or.inr hh) hn
      obtain ⟨q1, q2⟩ := sayS_mem hs
      have mo : Mo σ { sayS σ (servesT σ x) with s := (sayS σ (servesT σ x)).s ++ [⟨0, 0, mkA x.h, some (atT 110 σ.s.length), some (atT 99 σ.s.length), none⟩] } := by
        refine ⟨fun u hu => ?_, fun e he _ => ?_⟩
        · show (sayS σ (servesT σ x)).lk u = true
          rw [sayS_lk]; exact hu
        · show e ∈ (sayS σ (servesT σ x)).r
          rw [sayS_r]; exact he
      refine ⟨ok', fun y hy => ?_, fun i e hi => ?_, fun i e hi => ?_, fun e he hs2 => ?_⟩
      · rcases q2 y hy with hy | ⟨t, ht, hy⟩
        · exact (h.cl y hy).mo mo
        · simp only [servesT, List.mem_cons, List.not_mem_nil, or_false] at ht
          rcases ht with ht | ht | ht
          · cases ht; exact atom_leaf rfl (by decide) _ y hy
          · cases ht; exact atom_leaf rfl (by decide) _ y hy
          · obtain ⟨ha, rfl⟩ := mkA_is ht.symm
            simp only [leaves, List.mem_singleton] at hy
            subst hy
            unfold certB at hC
            rw [Bool.and_eq_true] at hC
            obtain ⟨c, r, hy2, hc⟩ := (atB_aln ha).2
            have h104 : c = 104 := by
              have := hC.2
              rw [hy2] at this
              simpa [headB] using this
            exact Or.inl ⟨c, r, hy2, hc, fun u _ hu => by
              rw [hy2, h104] at hu
              exact absurd (List.cons.inj hu).1 (by decide)⟩
      · have hi : (sayS σ (servesT σ x)).r[i]? = some e := hi
        rw [sayS_r] at hi
        exact h.ro i e hi
      · have hi : ((sayS σ (servesT σ x)).s ++ [⟨0, 0, mkA x.h, some (atT 110 σ.s.length), some (atT 99 σ.s.length), none⟩])[i]? = some e := hi
        rw [sayS_s] at hi
        rcases snoc_get hi with ⟨rfl, rfl⟩ | hi
        · rfl
        · exact h.sn i e hi
      · have he : e ∈ (sayS σ (servesT σ x)).s ++ [⟨0, 0, mkA x.h, some (atT 110 σ.s.length), some (atT 99 σ.s.length), none⟩] := he
        rw [sayS_s] at he
        rcases List.mem_append.1 he with he | he
        · exact (h.ag e he hs2).mo mo
        · have he := List.mem_singleton.1 he
          subst he
          cases hs2
    · exact h
theorem runs_inv {σ : St} (h : Inv σ) (x : Ev) : Inv (runsF σ x).2 := by
  have ok' := runs_ok h.ok x
  unfold runsF at ok' ⊢
  split
  · exact h
  · rename_i hn
    rw [if_neg hn] at ok'
    have mo : Mo σ { σ with r := σ.r ++ [⟨0, x.u.toNat, mkA x.h, none, some (atT 113 σ.r.length), none⟩] } := ⟨fun _ h => h, fun e he _ => List.mem_append_left _ he⟩
    refine ⟨ok', fun y hy => (h.cl y hy).mo mo, fun i e hi => ?_, h.sn, fun e he hs2 => (h.ag e he hs2).mo mo⟩
    rcases snoc_get hi with ⟨rfl, rfl⟩ | hi
    · rfl
    · exact h.ro i e hi
theorem leaks_inv {σ : St} (h : Inv σ) (u : Int) : Inv (leaksF σ u).2 := by
  have ok' := leaks_ok h.ok u
  unfold leaksF at ok' ⊢
  split
  · rename_i hc
    rw [if_pos hc] at ok'
    simp only [Bool.and_eq_true] at hc
    obtain ⟨q1, q2⟩ := sayS_mem hc.2
    have hu := userB_lt hc.1
    have mo : Mo σ { sayS σ [some (pwT u.toNat)] with lk := fun i => if i = u.toNat then true else (sayS σ [some (pwT u.toNat)]).lk i } := by
      refine ⟨fun v hv => ?_, fun e he _ => ?_⟩
      · show (if v = u.toNat then true else (sayS σ [some (pwT u.toNat)]).lk v) = true
        rw [sayS_lk]
        split
        · rfl
        · exact hv
      · show e ∈ (sayS σ [some (pwT u.toNat)]).r
        rw [sayS_r]; exact he
    refine ⟨ok', fun y hy => ?_, fun i e hi => ?_, fun i e hi => ?_, fun e he hs2 => ?_⟩
    · rcases q2 y hy with hy | ⟨t, ht, hy⟩
      · exact (h.cl y hy).mo mo
      · have ht := List.mem_singleton.1 ht
        cases ht
        have hy : y ∈ [[112, dg u.toNat]] := hy
        rw [List.mem_singleton] at hy
        subst hy
        refine Or.inl ⟨112, _, rfl, rfl, fun v hv hx => ?_⟩
        have hd : dg u.toNat = dg v := (List.cons.inj (List.cons.inj hx).2).1
        have : u.toNat = v := dg_inj (by omega) (by omega) hd
        show (if v = u.toNat then true else (sayS σ [some (pwT u.toNat)]).lk v) = true
        rw [if_pos this.symm]
    · have hi : (sayS σ [some (pwT u.toNat)]).r[i]? = some e := hi
      rw [sayS_r] at hi
      exact h.ro i e hi
    · have hi : (sayS σ [some (pwT u.toNat)]).s[i]? = some e := hi
      rw [sayS_s] at hi
      exact h.sn i e hi
    · have he : e ∈ (sayS σ [some (pwT u.toNat)]).s := he
      rw [sayS_s] at he
      exact (h.ag e he hs2).mo mo
  · exact h
/-- whoever binds a session has a run that was bound, or a password -/
theorem bind_met {σ : St} (h : Inv σ) {e : EndP} (he : e ∈ σ.s) {m : Tm} (hm : bindsO e = some m) {s : List UInt8} (hk : knownB σ.ks s = true) (hs : sameO (parse s).1 (some m) = true) : Met σ e := by
  obtain ⟨t, ht, hkn⟩ := knownB_some hk
  have gt := good_parse s t ht
  have gm := binds_good (h.ok.s e he) m hm
  rw [ht] at hs
  have htx : t.text = m.text := by simpa [sameO] using hs
  obtain rfl := text_one gt.1 gm.1 htx
  obtain ⟨ρ, ν, η, h1, h2, h3, rfl⟩ := binds_some hm
  have hu := (h.ok.s e he).u
  have no35 : ∀ r, (35 :: r : List UInt8) ∈ σ.ks → False := fun r hr => by
    rcases h.cl _ hr with ⟨c, q, hx, hc, _⟩ | ⟨q, hx⟩ | ⟨e', _, _, m', hm', hx⟩
    · rw [← (List.cons.inj hx).1] at hc; cases hc
    · exact absurd (List.cons.inj hx).1 (by decide)
    · obtain ⟨_, _, _, _, _, _, rfl⟩ := binds_some hm'
      exact absurd (List.cons.inj hx).1 (by decide)
  have no40 : ∀ r, (40 :: r : List UInt8) ∈ σ.ks → False := fun r hr => by
    rcases h.cl _ hr with ⟨c, q, hx, hc, _⟩ | ⟨q, hx⟩ | ⟨e', _, _, m', hm', hx⟩
    · rw [← (List.cons.inj hx).1] at hc; cases hc
    · exact absurd (List.cons.inj hx).1 (by decide)
    · obtain ⟨_, _, _, _, _, _, rfl⟩ := binds_some hm'
      exact absurd (List.cons.inj hx).1 (by decide)
  simp only [knB, Bool.or_eq_true, Bool.and_eq_true, decide_eq_true_eq] at hkn
  rcases hkn with hkn | ⟨hkn, _⟩
  · rcases h.cl _ hkn with ⟨c, q, hx, hc, _⟩ | ⟨q, hx⟩ | ⟨e', he', hs', m', hm', hx⟩
    · rw [← (List.cons.inj hx).1] at hc; cases hc
    · have h9 := (List.cons.inj hx).2
      simp only [Tm.text, List.cons_append] at h9
      exact absurd (List.cons.inj h9).1 (by decide)
    · have gm' := binds_good (h.ok.r e' he') m' hm'
      obtain rfl := text_one gm.1 gm'.1 hx
      obtain ⟨ρ', ν', η', g1, g2, g3, g4⟩ := binds_some hm'
      have hu' := (h.ok.r e' he').u
      simp only [Tm.lock.injEq, Tm.hash.injEq, Tm.pair.injEq] at g4
      obtain ⟨⟨g5, _⟩, rfl, rfl⟩ := g4
      have hd : dg e.u = dg e'.u := by
        have := congrArg Tm.text g5
        simp only [pwT_text] at this
        exact (List.cons.inj (List.cons.inj this).2).1
      have huu := dg_inj (by omega) (by omega) hd
      exact Or.inr ⟨e', he', hs', huu.symm, by rw [g3, h3], by rw [g2, h2]⟩
  · rcases hkn with hkn | hkn | hkn | ⟨hkn, _⟩
    · exact (no35 _ hkn).elim
    · exact (no35 _ hkn).elim
    · exact (no40 _ hkn).elim
    · have hp : [112, dg e.u] ∈ σ.ks := by simpa [knB, pwT, atT] using hkn
      rcases h.cl _ hp with ⟨c, q, hx, hc, hl⟩ | ⟨q, hx⟩ | ⟨e', he', hs', m', hm', hx⟩
      · exact Or.inl (hl e.u hu rfl)
      · exact absurd (List.cons.inj hx).1 (by decide)
      · obtain ⟨_, _, _, _, _, _, rfl⟩ := binds_some hm'
        exact absurd (List.cons.inj hx).1 (by decide)
theorem bind_inv {σ : St} (h : Inv σ) (x : Ev) : Inv (bindF σ x).2 := by
  have ok' := bind_ok h.ok x
  unfold bindF at ok' ⊢
  cases hi : inO σ.s x.i 1 with
  | none => exact h
  | some k =>
    obtain ⟨e, he, hst, _⟩ := inO_some hi
    rw [hi] at ok'
    simp only [nth_get he] at ok' ⊢
    split
    · rename_i hc
      rw [if_pos hc] at ok'
      split
      · exact h
      · rename_i m hm
        rw [hm] at ok'
        refine h.turnS (ks := σ.ks) (e := e) he rfl ok' (fun y hy => Or.inl hy) (fun h2 => ?_)
        have hsm : sameO (parse x.a).1 (some m) = true := by
          cases hh : sameO (parse x.a).1 (some m) with
          | true => rfl
          | false => rw [hh] at h2; cases h2
        have := bind_met h (List.mem_of_getElem? he) hm hc hsm
        exact this
    · exact h
theorem doF_inv {σ : St} (h : Inv σ) (x : Ev) : Inv (doF σ x).2 := by
  unfold doF
  repeat' split
  · exact serves_inv h x
  · exact runs_inv h x
  · exact asks_inv h x
  · exact tells_inv h x
  · exact proves_inv h x
  · exact bind_inv h x
  · exact leaks_inv h x.u
  · exact h
theorem σ0_inv : Inv σ0 := by
  refine ⟨σ0_ok, fun x hx => ?_, fun i e h => (by cases h), fun i e h => (by cases h), fun e h => (by cases h)⟩
  have : ∀ x ∈ heldBy piecesN, (match x with | c :: _ => isL c && decide (c ≠ 112) | [] => false) = true := by decide
  have hx2 := this x hx
  cases x with
  | nil => cases hx2
  | cons c r =>
    simp only [Bool.and_eq_true, decide_eq_true_eq] at hx2
    exact Or.inl ⟨c, r, rfl, hx2.1, fun u _ h => absurd (List.cons.inj h).1 hx2.2⟩
/-- two sessions have unlike nonces -/
theorem Inv.nonce {σ : St} (h : Inv σ) {i j : Nat} {e e' : EndP} (hi : σ.s[i]? = some e) (hj : σ.s[j]? = some e') (ht : txO e.n = txO e'.n) : i = j := by
  rw [h.sn i e hi, h.sn j e' hj] at ht
  have h6 := h.ok.ls
  have li := (List.getElem?_eq_some_iff.1 hi).1
  have lj := (List.getElem?_eq_some_iff.1 hj).1
  have ht : [110, dg i] = [110, dg j] := ht
  exact dg_inj (by omega) (by omega) (List.cons.inj (List.cons.inj ht).2).1
end Go.Proofs.YthigfakjiknhcaaDoorT
