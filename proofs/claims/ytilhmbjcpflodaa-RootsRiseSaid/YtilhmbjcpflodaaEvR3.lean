/- The law RootsSieve answers true. -/
import Derived.Test.YtilhmbjcpflodaaEvR2
namespace Go.Proofs.YtilhmbjcpflodaaE
open Go
set_option linter.unusedSimpArgs false
set_option linter.unusedVariables false
theorem PL_pair {i p q : Nat} (hi : i < 168) (hq : q ∈ PL.take i) (hp : PL[i]? = some p) : q < p ∧ p % q ≠ 0 := by
  have h := all_at t4 hi
  unfold T4 at h
  have := List.all_eq_true.1 h q hq
  rw [hp, Option.getD_some, Bool.and_eq_true, Nat.blt_eq] at this
  refine ⟨this.1, fun e => ?_⟩
  have h2 := this.2
  rw [e] at h2
  cases h2
theorem beqn (a : Nat) : (((a : Nat) : Int) == 0) = Nat.beq a 0 := by
  cases a with
  | zero => rfl
  | succ a => exact (beq_eq_false_iff_ne.2 (by omega)).trans rfl
section
variable {c81 : Int → Option (List Int)} {c80 : Option Bool}
theorem L70_1_is (N : Nat) (K : List Int → List Int → Int → Int → Option Bool) (s : List Nat) (p : Nat) (v7 v9 : List Int) (v10 v11 : Int) (hs : ∀ q ∈ s, 2 ≤ q ∧ q < p ∧ p % q ≠ 0) (hl : s.length ≤ 168) :
    ∀ d j fuel, j + d = s.length → d < fuel → L70_1 c81 c80 N K fuel v7 (p : Int) v9 v10 v11 (nI s) ((s.length : Nat) : Int) (j : Int) = K v7 v9 v10 v11 := by
  intro d
  induction d with
  | zero =>
    intro j fuel hd hf
    obtain ⟨m, rfl⟩ : ∃ m, fuel = m + 1 := ⟨fuel - 1, by omega⟩
    simp only [L70_1, show ¬ ((j : Int) < ((s.length : Nat) : Int)) by omega, decide_false, cond_false]
  | succ d ih =>
    intro j fuel hd hf
    obtain ⟨m, rfl⟩ : ∃ m, fuel = m + 1 := ⟨fuel - 1, by omega⟩
    have hj : j < s.length := by omega
    obtain ⟨h1, h2, h3⟩ := hs s[j] (List.getElem_mem hj)
    simp only [L70_1, show ((j : Int) < ((s.length : Nat) : Int)) by omega, decide_true, cond_true, geti_nat, nI_getn hj, show ¬ (((s[j] : Nat) : Int) ≥ (p : Int)) by omega, decide_false, cond_false, show (((s[j] : Nat) : Int) == 0) = false from beq_eq_false_iff_ne.2 (by omega), irem_n, show (((p % s[j] : Nat) : Int) == 0) = false from beq_eq_false_iff_ne.2 (by omega)]
    rw [up1 (by omega)]
    exact ih (j + 1) m (by omega) (by omega)
theorem L70_0_is (l : List Nat) (hl : l.length ≤ 168) (hp : ∀ i p, l[i]? = some p → ∀ q ∈ l.take i, 2 ≤ q ∧ q < p ∧ p % q ≠ 0) (Q : List Int → Option Bool) :
    ∀ d i fuel, i + d = l.length → d < fuel → L70_0 c81 c80 2000 Q fuel (nI l) (nI l) ((l.length : Nat) : Int) (i : Int) = Q (nI l) := by
  intro d
  induction d with
  | zero =>
    intro i fuel hd hf
    obtain ⟨m, rfl⟩ : ∃ m, fuel = m + 1 := ⟨fuel - 1, by omega⟩
    simp only [L70_0, show ¬ ((i : Int) < ((l.length : Nat) : Int)) by omega, decide_false, cond_false]
  | succ d ih =>
    intro i fuel hd hf
    obtain ⟨m, rfl⟩ : ∃ m, fuel = m + 1 := ⟨fuel - 1, by omega⟩
    have hi : i < l.length := by omega
    have hpi := hp i l[i] (List.getElem?_eq_getElem hi)
    have htl : (l.take i).length ≤ 168 := by rw [List.length_take]; omega
    simp only [L70_0, show ((i : Int) < ((l.length : Nat) : Int)) by omega, decide_true, cond_true, geti_nat, nI_getn hi, nI_len, show (0 : Int) ≤ (i : Int) by omega, show (i : Int) ≤ ((l.length : Nat) : Int) by omega, Bool.and_self, Int.toNat_natCast, nI_take]
    have key := L70_1_is (c81 := c81) (c80 := c80) 2000 (fun (y16 : List Int) (y17 : List Int) (y18 : Int) (y19 : Int) =>
              L70_0 c81 c80 2000 Q m y16 y17 y18 (iadd .i64 y19 (1 : Int))) (l.take i) l[i] (nI l) (nI l) ((l.length : Nat) : Int) (i : Int) hpi htl (l.take i).length 0 2000 (by omega) (by omega)
    refine Eq.trans key ?_
    show L70_0 c81 c80 2000 Q m (nI l) (nI l) ((l.length : Nat) : Int) (iadd .i64 (i : Int) 1) = _
    rw [up1 (by omega)]
    exact ih (i + 1) m (by omega) (by omega)
theorem L70_3_is (N : Nat) (q : List Int → Int → Bool → Option Bool) (v : List Int) (n : Nat) (s : List Nat) (hs : ∀ p ∈ s, 2 ≤ p) (hl : s.length ≤ 168) :
    ∀ d j fuel b, j + d = s.length → d < fuel → L70_3 c81 c80 N q fuel v (n : Int) b (nI s) ((s.length : Nat) : Int) (j : Int) = q v (n : Int) (b || (s.drop j).any fun p => Nat.beq (n % p) 0) := by
  intro d
  induction d with
  | zero =>
    intro j fuel b hd hf
    obtain ⟨m, rfl⟩ : ∃ m, fuel = m + 1 := ⟨fuel - 1, by omega⟩
    rw [List.drop_of_length_le (by omega), List.any_nil, Bool.or_false]
    simp only [L70_3, show ¬ ((j : Int) < ((s.length : Nat) : Int)) by omega, decide_false, cond_false]
  | succ d ih =>
    intro j fuel b hd hf
    obtain ⟨m, rfl⟩ : ∃ m, fuel = m + 1 := ⟨fuel - 1, by omega⟩
    have hj : j < s.length := by omega
    have h1 := hs s[j] (List.getElem_mem hj)
    rw [List.drop_eq_getElem_cons hj, List.any_cons]
    cases b with
    | true =>
      simp only [L70_3, show ((j : Int) < ((s.length : Nat) : Int)) by omega, decide_true, cond_true, geti_nat, nI_getn hj]
      rw [up1 (by omega), ih (j + 1) m true (by omega) (by omega), Bool.true_or, Bool.true_or]
    | false =>
      simp only [L70_3, show ((j : Int) < ((s.length : Nat) : Int)) by omega, decide_true, cond_true, geti_nat, nI_getn hj, cond_false, show (((s[j] : Nat) : Int) == 0) = false from beq_eq_false_iff_ne.2 (by omega), irem_n, beqn]
      rw [up1 (by omega), ih (j + 1) m _ (by omega) (by omega), Bool.false_or]
theorem L70_2_is (l : List Nat) (hne : 0 < l.length) (hl : l.length ≤ 168) (last : Nat) (hlast : l[l.length - 1]? = some last) (hlt : last < 1000) (h2 : ∀ p ∈ l, 2 ≤ p) (hany : ∀ n, 2 ≤ n → n ≤ last → (l.any fun p => Nat.beq (n % p) 0) = true) (Q : Option Bool) :
    ∀ d n fuel, n + d = last + 1 → d < fuel → 2 ≤ n → L70_2 c81 c80 2000 Q fuel (nI l) (n : Int) = Q := by
  intro d
  have hi : isub .i64 ((l.length : Nat) : Int) 1 = ((l.length - 1 : Nat) : Int) := by rw [isub_i (by omega) (by omega)]; omega
  induction d with
  | zero =>
    intro n fuel hd hf hn
    obtain ⟨m, rfl⟩ : ∃ m, fuel = m + 1 := ⟨fuel - 1, by omega⟩
    simp only [L70_2, nI_len, hi, geti_nat, nI_get, hlast, Option.map_some, show ¬ ((n : Int) ≤ (last : Int)) by omega, decide_false, cond_false]
  | succ d ih =>
    intro n fuel hd hf hn
    obtain ⟨m, rfl⟩ : ∃ m, fuel = m + 1 := ⟨fuel - 1, by omega⟩
    simp only [L70_2, nI_len, hi, geti_nat, nI_get, hlast, Option.map_some, show ((n : Int) ≤ (last : Int)) by omega, decide_true, cond_true]
    have key := L70_3_is (c81 := c81) (c80 := c80) 2000 (fun (y32 : List Int) (y33 : Int) (y34 : Bool) =>
            bif (!y34) then
              some false
            else
              L70_2 c81 c80 2000 Q m y32 (iadd .i64 y33 (1 : Int))) (nI l) n l h2 hl l.length 0 2000 false (by omega) (by omega)
    refine Eq.trans key ?_
    rw [List.drop_zero, hany n hn (by omega)]
    simp only [Bool.or_true, Bool.not_true, cond_false]
    rw [up1 (by omega)]
    exact ih (n + 1) m (by omega) (by omega) (by omega)
theorem lt_of {α : Type} {l : List α} {i : Nat} {x : α} (h : l[i]? = some x) : i < l.length := by
  rcases Nat.lt_or_ge i l.length with g | g
  · exact g
  · rw [List.getElem?_eq_none g] at h; cases h
theorem p70_is {a : Int} {l : List Nat} (A : c80 = some true) (hw : IntKind.i64.wrap a = a) (F : c81 a = some (nI l)) (hll : ((l.length : Nat) : Int) = if (168 : Int) < a then (168 : Int) else a) (hl : l.length ≤ 168) (hp : ∀ i p, l[i]? = some p → ∀ q ∈ l.take i, 2 ≤ q ∧ q < p ∧ p % q ≠ 0)
    (hlt : ∀ p ∈ l, 2 ≤ p ∧ p < 1000) (hany : ∀ last, l[l.length - 1]? = some last → ∀ n, 2 ≤ n → n ≤ last → (l.any fun p => Nat.beq (n % p) 0) = true) : p70 c81 c80 2000 a = some true := by
  subst A
  rw [p70.eq_def]
  simp only [hw, F, nI_len, ← hll, bne_self_eq_false, cond_false]
  refine (L70_0_is (c81 := c81) (c80 := some true) l hl hp _ l.length 0 2000 (by omega) (by omega)).trans ?_
  simp only [nI_len]
  by_cases h : l.length = 0
  · rw [h]; rfl
  · have h1 : ((l.length : Nat) : Int) ≠ 0 := by omega
    simp only [beq_eq_false_iff_ne.2 h1, cond_false]
    have hx : l.length - 1 < l.length := by omega
    have hlast := List.getElem?_eq_getElem hx
    have hm := hlt _ (List.getElem_mem hx)
    have key := L70_2_is (c81 := c81) (c80 := some true) l (by omega) hl _ hlast hm.2 (fun p hp => (hlt p hp).1) (hany _ hlast) (some true) (l[l.length - 1] - 1) 2 2000 (by omega) (by omega) (by omega)
    exact key
end
theorem take_pair (k : Nat) : ∀ i p, (PL.take k)[i]? = some p → ∀ q ∈ (PL.take k).take i, 2 ≤ q ∧ q < p ∧ p % q ≠ 0 := by
  intro i p hi q hq
  have hlt := lt_of hi
  have hlen : (PL.take k).length = min k 168 := by rw [List.length_take, t7]
  rw [List.take_take, Nat.min_eq_left (by omega)] at hq
  rw [List.getElem?_take_of_lt (by omega)] at hi
  exact ⟨(PL_ge (List.mem_of_mem_take hq)).1, PL_pair (by omega) hq hi⟩
theorem take_any (k last : Nat) (hlast : (PL.take k)[(PL.take k).length - 1]? = some last) (n : Nat) (h2 : 2 ≤ n) (hn : n ≤ last) : ((PL.take k).any fun p => Nat.beq (n % p) 0) = true := by
  have hk := lt_of hlast
  have hlm := List.mem_of_getElem? hlast
  have hl1 := PL_ge (List.mem_of_mem_take hlm)
  have h3 := all_at t3 (show n < 1000 by omega)
  unfold T3 at h3
  have h4 : Nat.blt n 2 = false := by
    rcases hb : Nat.blt n 2 with _ | _
    · rfl
    · rw [Nat.blt_eq] at hb; omega
  rw [h4, Bool.false_or] at h3
  obtain ⟨p, hp, hd⟩ := List.any_eq_true.1 h3
  have hpm := List.mem_filter.1 hp
  have hpl := hpm.2
  rw [Nat.blt_eq] at hpl
  refine List.any_eq_true.2 ⟨p, ?_, hd⟩
  obtain ⟨i, hi, he⟩ := List.getElem_of_mem hpm.1
  have hi' := hi
  rw [t7] at hi
  have hge : PL[i]? = some p := by rw [← he]; exact List.getElem?_eq_getElem hi'
  by_cases hik : i < k
  · exact List.mem_of_getElem? (by rw [List.getElem?_take_of_lt hik]; exact hge)
  · have : last ∈ PL.take i := by
      have hs : (PL.take i).take k = PL.take k := by rw [List.take_take, Nat.min_eq_left (by omega)]
      rw [← hs] at hlm
      exact List.mem_of_mem_take hlm
    have := PL_pair hi this hge
    omega
def f70 (a : Int) : Option Bool := if 0 ≤ a ∧ a < 256 then some true else none
theorem E70 : EntOK FT XT 70 (en70 f70) := ok70 f81 f80 E81 E80 (fun a r h => ⟨2000, by
  simp only [f70] at h
  split at h <;> try (cases h; done)
  rename_i hc
  injection h with h; subst h
  have hlen : (PL.take a.toNat).length = min a.toNat 168 := by rw [List.length_take, t7]
  have hll : (((PL.take a.toNat).length : Nat) : Int) = if (168 : Int) < a then (168 : Int) else a := by rw [hlen]; split <;> omega
  have hl : (PL.take a.toNat).length ≤ 168 := by omega
  have F : f81 a = some (nI (PL.take a.toNat)) := by unfold f81; exact rfl
  generalize hg : PL.take a.toNat = l at *
  refine p70_is (l := l) (show f80 = some true by unfold f80; exact rfl) (wrap_i64 (by omega) (by omega)) F hll hl ?_ ?_ ?_
  · rw [← hg]; exact take_pair a.toNat
  · intro p hp; rw [← hg] at hp; exact PL_ge (List.mem_of_mem_take hp)
  · rw [← hg]; exact take_any a.toNat⟩)
theorem law70 (z0 : Int) (h0 : (Lit.int .u8 z0).wf = true) :
    Ans FT XT 70 (encL [Sh.int .u8] (z0, ())) [] (.bool true) [] :=
  E70.2 (z0, ()) true (if_pos (wf_u rfl h0))
end Go.Proofs.YtilhmbjcpflodaaE
