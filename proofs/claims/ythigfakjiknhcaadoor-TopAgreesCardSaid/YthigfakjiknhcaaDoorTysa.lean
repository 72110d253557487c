/- The law: the relation that every event keeps. -/
import Derived.Test.YthigfakjiknhcaaDoorTys
namespace Go.Proofs.YthigfakjiknhcaaDoorT
open Go Go.Proofs Go.RowKit
set_option linter.unusedSimpArgs false
set_option linter.unusedVariables false
/-- what a held text may be -/
def Cls (σ : St) (x : List UInt8) : Prop :=
  (∃ c r, x = c :: r ∧ isL c = true ∧ (∀ u, u < 4 → x = [112, dg u] → σ.lk u = true)) ∨ (∃ r, x = 91 :: 112 :: r) ∨ (∃ e ∈ σ.r, e.st = 2 ∧ ∃ m, bindsO e = some m ∧ x = m.text)
def Met (σ : St) (e : EndP) : Prop := σ.lk e.u = true ∨ ∃ e' ∈ σ.r, e'.st = 2 ∧ e'.u = e.u ∧ e'.h = e.h ∧ e'.n = e.n
structure Inv (σ : St) : Prop where
  ok : σ.ok
  cl : ∀ x ∈ σ.ks, Cls σ x
  ro : ∀ (i : Nat) (e : EndP), σ.r[i]? = some e → e.own = some (atT 113 i)
  sn : ∀ (i : Nat) (e : EndP), σ.s[i]? = some e → e.n = some (atT 110 i)
  ag : ∀ e ∈ σ.s, e.st = 2 → Met σ e
/-- what leaks stays leaked; what is bound stays bound -/
structure Mo (σ σ' : St) : Prop where
  lk : ∀ u, σ.lk u = true → σ'.lk u = true
  r : ∀ e ∈ σ.r, e.st = 2 → e ∈ σ'.r
theorem Cls.mo {σ σ' : St} (h : Mo σ σ') {x : List UInt8} (c : Cls σ x) : Cls σ' x := by
  rcases c with ⟨c, r, h1, h2, h3⟩ | h1 | ⟨e, h1, h2, h3⟩
  · exact Or.inl ⟨c, r, h1, h2, fun u hu hx => h.lk u (h3 u hu hx)⟩
  · exact Or.inr (Or.inl h1)
  · exact Or.inr (Or.inr ⟨e, h.r e h1 h2, h2, h3⟩)
theorem Met.mo {σ σ' : St} (h : Mo σ σ') {e : EndP} (c : Met σ e) : Met σ' e := by
  rcases c with h1 | ⟨e', h1, h2, h3⟩
  · exact Or.inl (h.lk _ h1)
  · exact Or.inr ⟨e', h.r e' h1 h2, h2, h3⟩
theorem pwT_text (u : Nat) : (pwT u).text = [112, dg u] := rfl
theorem mkP_is {a b : Option Tm} {m : Tm} (h : mkP a b = some m) : ∃ x y, a = some x ∧ b = some y ∧ m = .pair x y := by
  unfold mkP at h
  split at h
  · split at h
    · cases h; exact ⟨_, _, rfl, rfl, rfl⟩
    · cases h
  · cases h
theorem mkS_is {a b : Option Tm} {m : Tm} (h : mkS a b = some m) : ∃ x y, a = some x ∧ b = some y ∧ m = .lock x y := by
  unfold mkS at h
  split at h
  · split at h
    · cases h; exact ⟨_, _, rfl, rfl, rfl⟩
    · cases h
  · cases h
theorem mkH_is {a : Option Tm} {m : Tm} (h : mkH a = some m) : ∃ x, a = some x ∧ m = .hash x := by
  unfold mkH at h
  split at h
  · split at h
    · cases h; exact ⟨_, rfl, rfl⟩
    · cases h
  · cases h
theorem mkA_is {s : List UInt8} {m : Tm} (h : mkA s = some m) : atB s = true ∧ m = .atom s := by
  unfold mkA at h
  split at h
  · rename_i h1; cases h; exact ⟨h1, rfl⟩
  · cases h
theorem binds_some {e : EndP} {m : Tm} (h : bindsO e = some m) : ∃ ρ ν η, e.r = some ρ ∧ e.n = some ν ∧ e.h = some η ∧ m = .lock (.hash (.hash (.pair (pwT e.u) ρ))) (.pair ν η) := by
  obtain ⟨k, p, h1, h2, rfl⟩ := mkS_is h
  obtain ⟨k1, h3, rfl⟩ := mkH_is h1
  obtain ⟨k2, h4, rfl⟩ := mkH_is h3
  obtain ⟨a, ρ, h5, h6, rfl⟩ := mkP_is h4
  obtain ⟨ν, η, h7, h8, rfl⟩ := mkP_is h2
  cases h5
  exact ⟨ρ, ν, η, h6, h7, h8, rfl⟩
/-- a lock by a password begins so -/
theorem pwlock_leaf {u : Nat} {q : Tm} : ∀ x ∈ leaves (.lock (pwT u) q), ∃ r, x = 91 :: 112 :: r := fun x hx => by
  simp only [leaves, List.mem_singleton] at hx
  exact ⟨_, hx⟩
theorem atom_leaf {c : UInt8} {n : Nat} (hc : isL c = true) (hn : c ≠ 112) (σ : St) : ∀ x ∈ leaves (atT c n), Cls σ x := fun x hx => by
  simp only [leaves, atT, List.mem_singleton] at hx
  subst hx
  exact Or.inl ⟨c, _, rfl, hc, fun u _ h => absurd (List.cons.inj h).1 hn⟩
theorem mem_nil_or {α : Type} {l : List α} {i : Nat} {x : α} (h : l[i]? = some x) : x ∈ l := List.mem_of_getElem? h
/-- one of two ends of a row is set: the bound ones stay -/
theorem set_stay {l : List EndP} {k : Nat} {e e' : EndP} (hk : l[k]? = some e) (h2 : e.st ≠ 2) : ∀ x ∈ l, x.st = 2 → x ∈ l.set k e' := fun x hx h => by
  obtain ⟨i, hi⟩ := List.mem_iff_getElem?.1 hx
  have hik : k ≠ i := fun hh => by
    subst hh
    rw [hk] at hi
    cases hi
    exact h2 h
  exact List.mem_of_getElem? (i := i) (by rw [List.getElem?_set, if_neg hik]; exact hi)
theorem set_get {l : List EndP} {k : Nat} {e : EndP} {i : Nat} {x : EndP} (h : (l.set k e)[i]? = some x) : (i = k ∧ x = e) ∨ (i ≠ k ∧ l[i]? = some x) := by
  rw [List.getElem?_set] at h
  split at h
  · rename_i hik
    split at h
    · cases h; exact Or.inl ⟨hik.symm, rfl⟩
    · cases h
  · rename_i hik
    exact Or.inr ⟨fun hh => hik hh.symm, h⟩
theorem snoc_get {l : List EndP} {e : EndP} {i : Nat} {x : EndP} (h : (l ++ [e])[i]? = some x) : (i = l.length ∧ x = e) ∨ l[i]? = some x := by
  by_cases hi : i < l.length
  · rw [List.getElem?_append_left hi] at h
    exact Or.inr h
  · rw [List.getElem?_append_right (by omega)] at h
    have h0 : i - l.length = 0 := by
      rcases Nat.eq_zero_or_pos (i - l.length) with h0 | h0
      · exact h0
      · rw [List.getElem?_eq_none (by simp; omega)] at h; cases h
    rw [h0] at h
    exact Or.inl ⟨by omega, by simpa using h.symm⟩
theorem Mo.refl (σ : St) : Mo σ σ := ⟨fun _ h => h, fun _ h _ => h⟩
/-- a run turned that was not bound -/
theorem Inv.turnR {σ : St} (h : Inv σ) {ks : List (List UInt8)} {k : Nat} {e e' : EndP} (hk : σ.r[k]? = some e) (h2 : e.st ≠ 2) (ho : e'.own = e.own) (hok : St.ok { σ with ks := ks, r := σ.r.set k e' })
    (hx : ∀ x ∈ ks, x ∈ σ.ks ∨ Cls { σ with ks := ks, r := σ.r.set k e' } x) : Inv { σ with ks := ks, r := σ.r.set k e' } := by
  have mo : Mo σ { σ with ks := ks, r := σ.r.set k e' } := ⟨fun _ h => h, set_stay hk h2⟩
  refine ⟨hok, fun x hm => ?_, fun i x hi => ?_, h.sn, fun x hm hs => (h.ag x hm hs).mo mo⟩
  · rcases hx x hm with hm | hm
    · exact (h.cl x hm).mo mo
    · exact hm
  · rcases set_get hi with ⟨rfl, rfl⟩ | ⟨_, hi⟩
    · rw [ho]; exact h.ro _ _ hk
    · exact h.ro i x hi
/-- a session turned -/
theorem Inv.turnS {σ : St} (h : Inv σ) {ks : List (List UInt8)} {k : Nat} {e e' : EndP} (hk : σ.s[k]? = some e) (hn : e'.n = e.n) (hok : St.ok { σ with ks := ks, s := σ.s.set k e' })
    (hx : ∀ x ∈ ks, x ∈ σ.ks ∨ Cls { σ with ks := ks, s := σ.s.set k e' } x) (hm : e'.st = 2 → Met σ e') : Inv { σ with ks := ks, s := σ.s.set k e' } := by
  have mo : Mo σ { σ with ks := ks, s := σ.s.set k e' } := ⟨fun _ h => h, fun _ h _ => h⟩
  refine ⟨hok, fun x hm => ?_, h.ro, fun i x hi => ?_, fun x hm' hs => ?_⟩
  · rcases hx x hm with hm | hm
    · exact (h.cl x hm).mo mo
    · exact hm
  · rcases set_get hi with ⟨rfl, rfl⟩ | ⟨_, hi⟩
    · rw [hn]; exact h.sn _ _ hk
    · exact h.sn i x hi
  · rcases List.mem_or_eq_of_mem_set hm' with h1 | rfl
    · exact (h.ag x h1 hs).mo mo
    · exact (hm hs).mo mo
end Go.Proofs.YthigfakjiknhcaaDoorT
