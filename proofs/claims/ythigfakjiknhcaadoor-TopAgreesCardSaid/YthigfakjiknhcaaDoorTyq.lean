/- Events keep the ends well formed. -/
import Derived.Test.YthigfakjiknhcaaDoorTyp
namespace Go.Proofs.YthigfakjiknhcaaDoorT
open Go Go.Proofs Go.RowKit
set_option linter.unusedSimpArgs false
set_option linter.unusedVariables false
theorem mkA_good (s : List UInt8) : goodO (mkA s) := by
  unfold mkA
  split
  · rename_i h
    exact fun t ht => by cases ht; exact good_atom h
  · exact fun t ht => by cases ht
theorem none_good : goodO none := fun t ht => by cases ht
theorem atT_goodO (c : UInt8) (n : Nat) (hc : nmB 0 c = true) (hn : n < 10) : goodO (some (atT c n)) := fun t ht => by cases ht; exact atT_good c n hc hn
theorem sayS_ok {σ : St} (h : σ.ok) (ts : List (Option Tm)) : (sayS σ ts).ok := ⟨by rw [sayS_s]; exact h.s, by rw [sayS_r]; exact h.r, by rw [sayS_s]; exact h.ls, by rw [sayS_r]; exact h.lr⟩
theorem set_ok {l : List EndP} (h : ∀ e ∈ l, e.ok) (k : Nat) {e : EndP} (he : e.ok) : ∀ x ∈ l.set k e, x.ok := fun x hx => by
  rcases List.mem_or_eq_of_mem_set hx with h1 | rfl
  · exact h x h1
  · exact he
theorem St.ok.setR {σ : St} (h : σ.ok) (k : Nat) {e : EndP} (he : e.ok) : St.ok { σ with r := σ.r.set k e } := ⟨h.s, set_ok h.r k he, h.ls, by simpa using h.lr⟩
theorem St.ok.setS {σ : St} (h : σ.ok) (k : Nat) {e : EndP} (he : e.ok) : St.ok { σ with s := σ.s.set k e } := ⟨set_ok h.s k he, h.r, by simpa using h.ls, h.lr⟩
theorem St.ok.appR {σ : St} (h : σ.ok) (hl : σ.r.length ≠ 6) {e : EndP} (he : e.ok) : St.ok { σ with r := σ.r ++ [e] } := ⟨h.s, fun x hx => by
    rcases List.mem_append.1 hx with h1 | h1
    · exact h.r x h1
    · simp at h1; subst h1; exact he, h.ls, by have := h.lr; simp; omega⟩
theorem St.ok.appS {σ : St} (h : σ.ok) (hl : σ.s.length ≠ 6) {e : EndP} (he : e.ok) : St.ok { σ with s := σ.s ++ [e] } := ⟨fun x hx => by
    rcases List.mem_append.1 hx with h1 | h1
    · exact h.s x h1
    · simp at h1; subst h1; exact he, h.r, by have := h.ls; simp; omega, h.lr⟩
theorem userB_lt {u : Int} (h : userB u = true) : u.toNat < 4 := by
  simp only [userB, Bool.and_eq_true, decide_eq_true_eq] at h
  omega
theorem serves_ok {σ : St} (h : σ.ok) (x : Ev) : (servesF σ x).2.ok := by
  unfold servesF
  split
  · exact h
  · rename_i hn
    have h6 : σ.s.length ≠ 6 := fun hh => hn (Or.inl hh)
    have h7 := h.ls
    split
    · refine (sayS_ok h (servesT σ x)).appS (by rw [sayS_s]; exact h6) ⟨by show 0 < 4; omega, mkA_good _, atT_goodO 110 _ (by decide) (by omega), atT_goodO 99 _ (by decide) (by omega), none_good⟩
    · exact h
theorem runs_ok {σ : St} (h : σ.ok) (x : Ev) : (runsF σ x).2.ok := by
  unfold runsF
  split
  · exact h
  · rename_i hn
    have h6 : σ.r.length ≠ 6 := fun hh => hn (Or.inl hh)
    have hu : userB x.u = true := by cases hh : userB x.u with | true => rfl | false => exact absurd (Or.inr (Or.inr hh)) hn
    have h7 := h.lr
    exact h.appR h6 ⟨userB_lt hu, mkA_good _, none_good, atT_goodO 113 _ (by decide) (by omega), none_good⟩
theorem asks_ok {σ : St} (h : σ.ok) (x : Ev) : (asksF σ x).2.ok := by
  unfold asksF
  cases hi : inO σ.r x.i 0 with
  | none => exact h
  | some k =>
    obtain ⟨e, he, _, _⟩ := inO_some hi
    have oke := h.r e (List.mem_of_getElem? he)
    simp only [nth_get he]
    split
    · split
      · exact (sayS_ok h _).setR k ⟨oke.u, oke.h, good_parse _, oke.own, resp_good (by have := oke.u; omega) (good_parse _) oke.own⟩
      · exact h
    · exact h
theorem tells_ok {σ : St} (h : σ.ok) (x : Ev) : (tellsF σ x).2.ok := by
  unfold tellsF
  cases hi : inO σ.r x.i 1 with
  | none => exact h
  | some k =>
    obtain ⟨e, he, _, _⟩ := inO_some hi
    have oke := h.r e (List.mem_of_getElem? he)
    simp only [nth_get he]
    split
    · split
      · split
        · exact (sayS_ok h _).setR k ⟨oke.u, oke.h, oke.n, oke.own, oke.r⟩
        · exact h
      · exact h.setR k ⟨oke.u, oke.h, oke.n, oke.own, oke.r⟩
    · exact h
theorem proves_ok {σ : St} (h : σ.ok) (x : Ev) : (provesF σ x).2.ok := by
  unfold provesF
  cases hi : inO σ.s x.i 0 with
  | none => exact h
  | some k =>
    obtain ⟨e, he, _, _⟩ := inO_some hi
    have oke := h.s e (List.mem_of_getElem? he)
    simp only [nth_get he]
    split
    · rename_i hc
      simp only [Bool.and_eq_true] at hc
      split
      · split
        · exact (sayS_ok h _).setS k ⟨userB_lt hc.1.1, oke.h, oke.n, oke.own, good_parse _⟩
        · exact h
      · exact h.setS k ⟨oke.u, oke.h, oke.n, oke.own, oke.r⟩
    · exact h
theorem bind_ok {σ : St} (h : σ.ok) (x : Ev) : (bindF σ x).2.ok := by
  unfold bindF
  cases hi : inO σ.s x.i 1 with
  | none => exact h
  | some k =>
    obtain ⟨e, he, _, _⟩ := inO_some hi
    have oke := h.s e (List.mem_of_getElem? he)
    simp only [nth_get he]
    split
    · split
      · exact h
      · exact h.setS k ⟨oke.u, oke.h, oke.n, oke.own, oke.r⟩
    · exact h
theorem leaks_ok {σ : St} (h : σ.ok) (u : Int) : (leaksF σ u).2.ok := by
  unfold leaksF
  split
  · have := sayS_ok h [some (pwT u.toNat)]
    exact ⟨this.s, this.r, this.ls, this.lr⟩
  · exact h
theorem doF_ok {σ : St} (h : σ.ok) (x : Ev) : (doF σ x).2.ok := by
  unfold doF
  repeat' split
  · exact serves_ok h x
  · exact runs_ok h x
  · exact asks_ok h x
  · exact tells_ok h x
  · exact proves_ok h x
  · exact bind_ok h x
  · exact leaks_ok h x.u
  · exact h
def σ0 : St := ⟨heldBy piecesN, [], [], fun _ => false⟩
theorem σ0_ok : σ0.ok := ⟨fun e h => (by cases h), fun e h => (by cases h), Nat.zero_le _, Nat.zero_le _⟩
/-! ### the undisturbed run -/
def rT : List UInt8 := twoT 91 93 [112, 48] [40, 99, 48, 32, 113, 48, 41]
def evS : List Ev := [⟨1, 0, 0, [104], [], []⟩, ⟨2, 0, 0, [104], [], []⟩, ⟨3, 0, 0, [], [110, 48], [99, 48]⟩, ⟨5, 0, 0, [], [113, 48], rT⟩,
  ⟨4, 0, 0, [], twoT 91 93 [112, 48] (40 :: (rT ++ [32, 111, 107, 41])), []⟩, ⟨6, 0, 0, [], boundT rT [110, 48] [104], []⟩]
def stS : Nat → St
  | 0 => σ0
  | k + 1 => (doF (stS k) (evS.getD k ⟨0, 0, 0, [], [], []⟩)).2
theorem stS_ok (k : Nat) : (stS k).ok := by
  induction k with
  | zero => exact σ0_ok
  | succ k ih => exact doF_ok ih _
theorem sym_yes : (List.range 6).all (fun k => (doF (stS k) (evS.getD k ⟨0, 0, 0, [], [], []⟩)).1) = true := by decide
theorem sym_end : (stS 6).s.map (fun e => e.st) = [2] := by decide
end Go.Proofs.YthigfakjiknhcaaDoorT
