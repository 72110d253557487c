/- The law: what is held, and whose sessions deliver. -/
import Derived.Test.YthigfakjiknhcaaDoorTyr
namespace Go.Proofs.YthigfakjiknhcaaDoorT
open Go Go.Proofs Go.RowKit
set_option linter.unusedSimpArgs false
set_option linter.unusedVariables false
/-! ### a text tells its term -/
def aln (c : UInt8) : Bool := isL c || isD c
theorem nmFrom_all : ∀ (k : Nat) (s : List UInt8), nmFrom k s = s.length → ∀ c ∈ s, aln c = true
  | _, [], _ => fun c hc => by cases hc
  | k, a :: r, h => fun c hc => by
    unfold nmFrom at h
    have hr := nmFrom_le (k + 1) r
    cases ha : nmB k a with
    | false => rw [ha] at h; simp at h
    | true =>
      rw [ha] at h
      simp only [if_true, List.length_cons] at h
      rcases List.mem_cons.1 hc with rfl | hc
      · unfold nmB at ha
        unfold aln
        simp only [Bool.or_eq_true, Bool.and_eq_true] at ha ⊢
        rcases ha with h | h
        · exact Or.inl h
        · exact Or.inr h.2
      · exact nmFrom_all (k + 1) r (by omega) c hc
theorem atB_aln {s : List UInt8} (h : atB s = true) : (∀ c ∈ s, aln c = true) ∧ ∃ c r, s = c :: r ∧ isL c = true := by
  unfold atB at h
  simp only [Bool.and_eq_true, decide_eq_true_eq] at h
  obtain ⟨⟨h1, _⟩, h3⟩ := h
  refine ⟨nmFrom_all 0 s h3, ?_⟩
  cases s with
  | nil => simp at h1
  | cons c r =>
    refine ⟨c, r, rfl, ?_⟩
    have h4 : nmFrom 0 (c :: r) = (c :: r).length := h3
    unfold nmFrom at h4
    cases hc : nmB 0 c with
    | false => rw [hc] at h4; simp at h4
    | true =>
      unfold nmB at hc
      simpa using hc
def dlm (r : List UInt8) : Prop := ∀ c r', r = c :: r' → aln c = false
theorem span_inj : ∀ (s s' r r' : List UInt8), (∀ c ∈ s, aln c = true) → (∀ c ∈ s', aln c = true) → dlm r → dlm r' → s ++ r = s' ++ r' → s = s' ∧ r = r'
  | [], [], r, r', _, _, _, _, h => ⟨rfl, h⟩
  | [], c :: s', r, r', _, h2, h3, _, h => by
    have := h3 c (s' ++ r') h
    rw [h2 c (by simp)] at this
    cases this
  | c :: s, [], r, r', h1, _, _, h4, h => by
    have := h4 c (s ++ r) h.symm
    rw [h1 c (by simp)] at this
    cases this
  | c :: s, c' :: s', r, r', h1, h2, h3, h4, h => by
    simp only [List.cons_append, List.cons.injEq] at h
    obtain ⟨rfl, h⟩ := h
    obtain ⟨rfl, h5⟩ := span_inj s s' r r' (fun d hd => h1 d (by simp [hd])) (fun d hd => h2 d (by simp [hd])) h3 h4 h
    exact ⟨rfl, h5⟩
theorem dlm_cons {c : UInt8} (h : aln c = false) (r : List UInt8) : dlm (c :: r) := fun c' r' e => by cases e; exact h
theorem text_inj : ∀ (t t' : Tm) (r r' : List UInt8), t.wf → t'.wf → dlm r → dlm r' → t.text ++ r = t'.text ++ r' → t = t' ∧ r = r'
  | .atom s, .atom s', r, r', h, h', d, d', e => by
    obtain ⟨rfl, e1⟩ := span_inj s s' r r' (atB_aln h).1 (atB_aln h').1 d d' e
    exact ⟨rfl, e1⟩
  | .atom s, .pair a b, r, r', h, h', d, d', e => by
    obtain ⟨c, q, rfl, hc⟩ := (atB_aln h).2
    simp only [Tm.text, List.cons_append, List.cons.injEq] at e
    rw [e.1] at hc
    cases hc
  | .atom s, .hash a, r, r', h, h', d, d', e => by
    obtain ⟨c, q, rfl, hc⟩ := (atB_aln h).2
    simp only [Tm.text, List.cons_append, List.cons.injEq] at e
    rw [e.1] at hc
    cases hc
  | .atom s, .lock k a, r, r', h, h', d, d', e => by
    obtain ⟨c, q, rfl, hc⟩ := (atB_aln h).2
    simp only [Tm.text, List.cons_append, List.cons.injEq] at e
    rw [e.1] at hc
    cases hc
  | .pair a b, .atom s, r, r', h, h', d, d', e => by
    obtain ⟨c, q, rfl, hc⟩ := (atB_aln h').2
    simp only [Tm.text, List.cons_append, List.cons.injEq] at e
    rw [← e.1] at hc
    cases hc
  | .hash a, .atom s, r, r', h, h', d, d', e => by
    obtain ⟨c, q, rfl, hc⟩ := (atB_aln h').2
    simp only [Tm.text, List.cons_append, List.cons.injEq] at e
    rw [← e.1] at hc
    cases hc
  | .lock k a, .atom s, r, r', h, h', d, d', e => by
    obtain ⟨c, q, rfl, hc⟩ := (atB_aln h').2
    simp only [Tm.text, List.cons_append, List.cons.injEq] at e
    rw [← e.1] at hc
    cases hc
  | .pair a b, .pair a' b', r, r', h, h', d, d', e => by
    simp only [Tm.text, List.cons_append, List.append_assoc, List.cons.injEq, true_and, List.nil_append] at e
    obtain ⟨rfl, e1⟩ := text_inj a a' _ _ h.1 h'.1 (dlm_cons rfl _) (dlm_cons rfl _) e
    simp only [List.cons.injEq, true_and] at e1
    obtain ⟨rfl, e2⟩ := text_inj b b' _ _ h.2 h'.2 (dlm_cons rfl _) (dlm_cons rfl _) e1
    simp only [List.cons.injEq, true_and] at e2
    exact ⟨rfl, e2⟩
  | .lock a b, .lock a' b', r, r', h, h', d, d', e => by
    simp only [Tm.text, List.cons_append, List.append_assoc, List.cons.injEq, true_and, List.nil_append] at e
    obtain ⟨rfl, e1⟩ := text_inj a a' _ _ h.1 h'.1 (dlm_cons rfl _) (dlm_cons rfl _) e
    simp only [List.cons.injEq, true_and] at e1
    obtain ⟨rfl, e2⟩ := text_inj b b' _ _ h.2 h'.2 (dlm_cons rfl _) (dlm_cons rfl _) e1
    simp only [List.cons.injEq, true_and] at e2
    exact ⟨rfl, e2⟩
  | .hash a, .hash a', r, r', h, h', d, d', e => by
    simp only [Tm.text, List.cons_append, List.cons.injEq, true_and] at e
    obtain ⟨rfl, e1⟩ := text_inj a a' _ _ h h' d d' e
    exact ⟨rfl, e1⟩
  | .pair a b, .hash a', r, r', h, h', d, d', e => by simp [Tm.text] at e
  | .pair a b, .lock k a', r, r', h, h', d, d', e => by simp [Tm.text] at e
  | .hash a, .pair a' b', r, r', h, h', d, d', e => by simp [Tm.text] at e
  | .hash a, .lock k a', r, r', h, h', d, d', e => by simp [Tm.text] at e
  | .lock k a, .pair a' b', r, r', h, h', d, d', e => by simp [Tm.text] at e
  | .lock k a, .hash a', r, r', h, h', d, d', e => by simp [Tm.text] at e
theorem text_one {t t' : Tm} (h : t.wf) (h' : t'.wf) (e : t.text = t'.text) : t = t' :=
  (text_inj t t' [] [] h h' (fun c r' e => by cases e) (fun c r' e => by cases e) (by rw [e])).1
/-! ### what is said is what is held -/
def leaves : Tm → List (List UInt8)
  | .pair a b => leaves a ++ leaves b
  | .atom s => [s]
  | .hash a => [(Tm.hash a).text]
  | .lock k a => [(Tm.lock k a).text]
theorem mem_put {ks : List (List UInt8)} {s x : List UInt8} (h : x ∈ put ks s) : x ∈ ks ∨ x = s := by
  unfold put at h
  split at h
  · exact Or.inl h
  · rcases List.mem_append.1 h with h | h
    · exact Or.inl h
    · exact Or.inr (by simpa using h)
theorem mem_splitS : ∀ (t : Tm) (ks : List (List UInt8)) (x : List UInt8), x ∈ splitS ks t → x ∈ ks ∨ x ∈ leaves t
  | .pair a b, ks, x, h => by
    rcases mem_splitS b _ x h with h | h
    · rcases mem_splitS a _ x h with h | h
      · exact Or.inl h
      · exact Or.inr (by simp [leaves, h])
    · exact Or.inr (by simp [leaves, h])
  | .atom s, ks, x, h => by
    rcases mem_put h with h | h
    · exact Or.inl h
    · exact Or.inr (by simp [leaves, h])
  | .hash a, ks, x, h => by
    rcases mem_put h with h | h
    · exact Or.inl h
    · exact Or.inr (by simp [leaves, h])
  | .lock k a, ks, x, h => by
    rcases mem_put h with h | h
    · exact Or.inl h
    · exact Or.inr (by simp [leaves, h])
theorem mem_sayO : ∀ (ts : List (Option Tm)) (ks k : List (List UInt8)), sayO ks ts = some k → (∀ o ∈ ts, ∃ t, o = some t) ∧ ∀ x ∈ k, x ∈ ks ∨ ∃ t, some t ∈ ts ∧ x ∈ leaves t
  | [], ks, k, h => by
    cases h
    exact ⟨fun o ho => (by cases ho), fun x hx => Or.inl hx⟩
  | o :: ts, ks, k, h => by
    unfold sayO at h
    split at h
    · rename_i h0
      cases o with
      | none => simp [hear] at h0
      | some t =>
        have h2 : (hear ks (some t)).2 = splitS ks t := by
          unfold hear at h0 ⊢
          simp only at h0 ⊢
          split at h0
          · simp at h0
          · rename_i hl
            rw [if_neg hl]
        rw [h2] at h
        obtain ⟨i1, i2⟩ := mem_sayO ts _ k h
        refine ⟨fun o ho => ?_, fun x hx => ?_⟩
        · rcases List.mem_cons.1 ho with rfl | ho
          · exact ⟨t, rfl⟩
          · exact i1 o ho
        · rcases i2 x hx with h | ⟨t', h1, h2⟩
          · rcases mem_splitS t ks x h with h | h
            · exact Or.inl h
            · exact Or.inr ⟨t, by simp, h⟩
          · exact Or.inr ⟨t', by simp [h1], h2⟩
    · cases h
theorem sayS_mem {σ : St} {ts : List (Option Tm)} (h : sayB σ ts = true) : (∀ o ∈ ts, ∃ t, o = some t) ∧ ∀ x ∈ (sayS σ ts).ks, x ∈ σ.ks ∨ ∃ t, some t ∈ ts ∧ x ∈ leaves t := by
  unfold sayB at h
  unfold sayS
  cases hs : sayO σ.ks ts with
  | none => rw [hs] at h; cases h
  | some k => exact mem_sayO ts σ.ks k hs
theorem dg_inj {i j : Nat} (hi : i < 10) (hj : j < 10) (h : dg i = dg j) : i = j := by
  have : ∀ i < 10, ∀ j < 10, dg i = dg j → i = j := by decide
  exact this i hi j hj h
end Go.Proofs.YthigfakjiknhcaaDoorT
