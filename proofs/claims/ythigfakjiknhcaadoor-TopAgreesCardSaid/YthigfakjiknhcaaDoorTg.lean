/- Pair, Hash, Seal. -/
import Derived.Test.YthigfakjiknhcaaDoorTf
namespace Go.Proofs.YthigfakjiknhcaaDoorT
open Go Go.Proofs Go.RowKit
set_option linter.unusedSimpArgs false
set_option linter.unusedVariables false
def deepB : Option Tm → Bool | some t => decide (40 ≤ t.depth) | none => false
/-- the error of making a term of some -/
def rm (ts : List (Option Tm)) : Nat :=
  if ts.any (·.isNone) then 2
  else if decide (200 < 1 + sumS ts) || ts.any deepB then 8
  else 0
/-- terms are of this size -/
def okT (t : Tm) : Prop := t.size ≤ 10000 ∧ t.depth ≤ 10000
def okO (o : Option Tm) : Prop := ∀ t, o = some t → okT t
theorem sumS_bound : ∀ (ts : List (Option Tm)), (∀ t, some t ∈ ts → t.size ≤ 10000) → sumS ts ≤ 10000 * ts.length
  | [], _ => by simp [sumS]
  | none :: r, h => by
    have := sumS_bound r (fun t ht => h t (by simp [ht]))
    simp only [sumS, List.length_cons]; omega
  | some t :: r, h => by
    have := sumS_bound r (fun t ht => h t (by simp [ht]))
    have := h t (by simp)
    simp only [sumS, List.length_cons]; omega
theorem room_rm {w : World} {ts : List (Option Tm)} {r : Nat} (hn : ts ≠ []) (hl : ts.length ≤ 100) (ht : ∀ t, some t ∈ ts → okT t) (h : RLO w ts r) :
    Calls Tryd.prog 69 #[.slice (some ⟨r, 0, none⟩) ts.length ts.length] w fun e w' => e = .returned (.tuple #[.int .i64 ((if rm ts = 0 then 1 + sumS ts else 0 : Nat)), .int .i64 (rm ts : Nat)]) ∧ Below w.heap.size w w' := by
  refine room_any hl ht (by have := sumS_bound ts (fun t h => (ht t h).1); omega) h _ _ ?_
  unfold rm
  by_cases h1 : none ∈ ts
  · left
    have : ts.any (·.isNone) = true := List.any_eq_true.2 ⟨none, h1, rfl⟩
    rw [if_pos this]
    exact ⟨h1, by simp, rfl⟩
  · right
    have h1' : ¬ ts.any (·.isNone) = true := by
      intro hh
      obtain ⟨o, ho, hi⟩ := List.any_eq_true.1 hh
      cases o with
      | none => exact h1 ho
      | some t => cases hi
    rw [if_neg h1']
    by_cases h2 : (decide (200 < 1 + sumS ts) || ts.any deepB) = true
    · left
      rw [if_pos h2]
      refine ⟨h1, ?_, by simp, rfl⟩
      rcases Bool.or_eq_true_iff.1 h2 with h3 | h3
      · exact Or.inl ⟨by simpa using h3, hn⟩
      · right
        obtain ⟨o, ho, hi⟩ := List.any_eq_true.1 h3
        cases o with
        | none => cases hi
        | some t => exact ⟨t, ho, by simpa [deepB] using hi⟩
    · right
      rw [if_neg h2]
      have h3 : ¬ (decide (200 < 1 + sumS ts) = true) := fun hh => h2 (by rw [hh]; rfl)
      have h4 : ¬ (ts.any deepB = true) := fun hh => h2 (by rw [hh, Bool.or_true])
      refine ⟨h1, Or.inl (by simp at h3; omega), fun t htm => ?_, by simp, rfl⟩
      rcases Nat.lt_or_ge t.depth 40 with h5 | h5
      · exact h5
      · exact absurd (List.any_eq_true.2 ⟨some t, htm, by simpa [deepB] using h5⟩) h4
theorem RO.shape {w : World} {t : Option Tm} {v : Value} (h : RO w t v) : (∃ (D : TypeId) (u : Value), v = .iface D u) ∨ v = .nilIface := by
  cases t with
  | none => exact Or.inr h
  | some t => exact Or.inl (RT.shape h)
theorem RO.alloc {w : World} {t : Option Tm} {v : Value} (h : RO w t v) (o : Obj) : RO (w.alloc o) t v := h.mono (KT.of_below ((Below.refl _ _).alloc (Nat.le_refl _) _))
theorem RLO.two {w : World} {a b : Option Tm} {x y : Value} (ha : RO w a x) (hb : RO w b y) : RLO (w.alloc (.cells #[x, y] 47)) [a, b] w.heap.size := fun j t hj => by
  match j, hj with
  | 0, hj => cases hj; exact ⟨x, by rw [new_cell]; rfl, ha.alloc _⟩
  | 1, hj => cases hj; exact ⟨y, by rw [new_cell]; rfl, hb.alloc _⟩
  | j + 2, hj => simp at hj
theorem RLO.one {w : World} {a : Option Tm} {x : Value} (ha : RO w a x) : RLO (w.alloc (.cells #[x] 47)) [a] w.heap.size := fun j t hj => by
  match j, hj with
  | 0, hj => cases hj; exact ⟨x, by rw [new_cell]; rfl, ha.alloc _⟩
  | j + 1, hj => simp at hj
theorem al_below (w : World) (o : Obj) : Below w.heap.size w (w.alloc o) := (Below.refl _ _).alloc (Nat.le_refl _) _
def mkP (a b : Option Tm) : Option Tm := match a, b with | some x, some y => if rm [some x, some y] = 0 then some (.pair x y) else none | _, _ => none
def mkS (a b : Option Tm) : Option Tm := match a, b with | some x, some y => if rm [some x, some y] = 0 then some (.lock x y) else none | _, _ => none
def mkH (a : Option Tm) : Option Tm := match a with | some x => if rm [some x] = 0 then some (.hash x) else none | _ => none
theorem rm_nil {ts : List (Option Tm)} (h : rm ts = 0) : ∀ o ∈ ts, ∃ t, o = some t := by
  intro o ho
  cases o with
  | some t => exact ⟨t, rfl⟩
  | none =>
    unfold rm at h
    rw [if_pos (List.any_eq_true.2 ⟨none, ho, rfl⟩)] at h
    cases h
set_option maxHeartbeats 4000000 in
set_option maxRecDepth 1000000 in
theorem pair_any {w : World} {a b : Option Tm} {x y : Value} (ha : RO w a x) (hb : RO w b y) (ka : okO a) (kb : okO b) :
    Calls Tryd.prog 60 #[x, y] w fun e w' => (∃ v, e = .returned (.tuple #[v, .int .i64 (rm [a, b] : Nat)]) ∧ RO w' (mkP a b) v) ∧ Below w.heap.size w w' := by
  have hroom := room_rm (w := w.alloc (.cells #[x, y] 47)) (ts := [a, b]) (r := w.heap.size) (by simp) (by simp) (fun t ht => by
    simp only [List.mem_cons, List.not_mem_nil, or_false] at ht
    rcases ht with h | h
    · exact ka t h.symm
    · exact kb t h.symm) (RLO.two ha hb)
  have hx : ∀ (z : Value), (z = x ∨ z = y) → (∃ (D : TypeId) (u : Value), z = .iface D u) ∨ z = .nilIface := fun z hz => by
    rcases hz with rfl | rfl
    · exact ha.shape
    · exact hb.shape
  by_cases h0 : rm [a, b] = 0
  · obtain ⟨p, rfl⟩ := rm_nil h0 a (by simp)
    obtain ⟨q, rfl⟩ := rm_nil h0 b (by simp)
    have ha' : RT w p x := ha
    have hb' : RT w q y := hb
    obtain ⟨D, u, rfl⟩ := ha'.shape
    obtain ⟨D', u', rfl⟩ := hb'.shape
    obtain ⟨n, hn⟩ : ∃ n : Nat, n = (Tm.pair p q).size := ⟨_, rfl⟩
    have hsum : (if rm [some p, some q] = 0 then 1 + sumS [some p, some q] else 0) = n := by
      rw [if_pos h0, hn]; simp only [sumS, Tm.size]; omega
    rw [hsum, h0] at hroom
    go_enter Tryd.func60, Tryd.ntmps60
    go_wp2_with (go_at_call 69; refine Calls.mono hroom ?_)
    try simp only [and_imp]
    rintro e w1 rfl hb1
    go_wp2
    go_ret2
    have hB : Below w.heap.size w w1 := (al_below w _).trans (hb1.mono (al_below w _).size)
    have hA := al_below w1 (.cells #[.iface D u, .iface D' u', .int .i64 ((Tm.pair p q).size : Nat)] 97)
    refine ⟨⟨.iface 95 (.pointer (some ⟨w1.heap.size, 0, none⟩)), by rw [h0]; rfl, ?_⟩, hB.trans (hA.mono hB.size)⟩
    show RO _ (mkP (some p) (some q)) _
    unfold mkP
    simp only [h0, if_true]
    have hk := (KT.of_below hB).trans (KT.of_below hA)
    refine RT.pair p q _ _ w1.heap.size ?_ (ha'.mono hk) (hb'.mono hk)
    show (w1.heap.push _)[w1.heap.size]? = _
    simp
  · have hne : ((rm [a, b] : Nat) : Int) ≠ 0 := by omega
    have hne1 : (((rm [a, b] : Nat) : Int) != 0) = true := bne_iff_ne.2 hne
    have hmk : mkP a b = none := by
      unfold mkP
      split
      · rw [if_neg h0]
      · rfl
    rw [if_neg h0] at hroom
    generalize hm : ((rm [a, b] : Nat) : Int) = m at *
    rcases hx x (Or.inl rfl) with ⟨D, u, rfl⟩ | rfl <;> rcases hx y (Or.inr rfl) with ⟨D', u', rfl⟩ | rfl
    all_goals
      go_enter Tryd.func60, Tryd.ntmps60
      go_wp2_with (go_at_call 69; refine Calls.mono hroom ?_)
      try simp only [and_imp]
      rintro e w1 rfl hb1
      go_wp2
      go_ret2
      exact ⟨⟨.nilIface, rfl, by rw [hmk]; rfl⟩, (al_below w _).trans (hb1.mono (al_below w _).size)⟩
set_option maxHeartbeats 4000000 in
set_option maxRecDepth 1000000 in
theorem lock_any {w : World} {a b : Option Tm} {x y : Value} (ha : RO w a x) (hb : RO w b y) (ka : okO a) (kb : okO b) :
    Calls Tryd.prog 68 #[x, y] w fun e w' => (∃ v, e = .returned (.tuple #[v, .int .i64 (rm [a, b] : Nat)]) ∧ RO w' (mkS a b) v) ∧ Below w.heap.size w w' := by
  have hroom := room_rm (w := w.alloc (.cells #[x, y] 47)) (ts := [a, b]) (r := w.heap.size) (by simp) (by simp) (fun t ht => by
    simp only [List.mem_cons, List.not_mem_nil, or_false] at ht
    rcases ht with h | h
    · exact ka t h.symm
    · exact kb t h.symm) (RLO.two ha hb)
  have hx : ∀ (z : Value), (z = x ∨ z = y) → (∃ (D : TypeId) (u : Value), z = .iface D u) ∨ z = .nilIface := fun z hz => by
    rcases hz with rfl | rfl
    · exact ha.shape
    · exact hb.shape
  by_cases h0 : rm [a, b] = 0
  · obtain ⟨p, rfl⟩ := rm_nil h0 a (by simp)
    obtain ⟨q, rfl⟩ := rm_nil h0 b (by simp)
    have ha' : RT w p x := ha
    have hb' : RT w q y := hb
    obtain ⟨D, u, rfl⟩ := ha'.shape
    obtain ⟨D', u', rfl⟩ := hb'.shape
    obtain ⟨n, hn⟩ : ∃ n : Nat, n = (Tm.lock p q).size := ⟨_, rfl⟩
    have hsum : (if rm [some p, some q] = 0 then 1 + sumS [some p, some q] else 0) = n := by
      rw [if_pos h0, hn]; simp only [sumS, Tm.size]; omega
    rw [hsum, h0] at hroom
    go_enter Tryd.func68, Tryd.ntmps68
    go_wp2_with (go_at_call 69; refine Calls.mono hroom ?_)
    try simp only [and_imp]
    rintro e w1 rfl hb1
    go_wp2
    go_ret2
    have hB : Below w.heap.size w w1 := (al_below w _).trans (hb1.mono (al_below w _).size)
    have hA := al_below w1 (.cells #[.iface D u, .iface D' u', .int .i64 ((Tm.lock p q).size : Nat)] 103)
    refine ⟨⟨.iface 101 (.pointer (some ⟨w1.heap.size, 0, none⟩)), by rw [h0]; rfl, ?_⟩, hB.trans (hA.mono hB.size)⟩
    show RO _ (mkS (some p) (some q)) _
    unfold mkS
    simp only [h0, if_true]
    have hk := (KT.of_below hB).trans (KT.of_below hA)
    refine RT.lock p q _ _ w1.heap.size ?_ (ha'.mono hk) (hb'.mono hk)
    show (w1.heap.push _)[w1.heap.size]? = _
    simp
  · have hne : ((rm [a, b] : Nat) : Int) ≠ 0 := by omega
    have hne1 : (((rm [a, b] : Nat) : Int) != 0) = true := bne_iff_ne.2 hne
    have hmk : mkS a b = none := by
      unfold mkS
      split
      · rw [if_neg h0]
      · rfl
    rw [if_neg h0] at hroom
    generalize hm : ((rm [a, b] : Nat) : Int) = m at *
    rcases hx x (Or.inl rfl) with ⟨D, u, rfl⟩ | rfl <;> rcases hx y (Or.inr rfl) with ⟨D', u', rfl⟩ | rfl
    all_goals
      go_enter Tryd.func68, Tryd.ntmps68
      go_wp2_with (go_at_call 69; refine Calls.mono hroom ?_)
      try simp only [and_imp]
      rintro e w1 rfl hb1
      go_wp2
      go_ret2
      exact ⟨⟨.nilIface, rfl, by rw [hmk]; rfl⟩, (al_below w _).trans (hb1.mono (al_below w _).size)⟩
set_option maxHeartbeats 4000000 in
set_option maxRecDepth 1000000 in
theorem hash_any {w : World} {a : Option Tm} {x : Value} (ha : RO w a x) (ka : okO a) :
    Calls Tryd.prog 70 #[x] w fun e w' => (∃ v, e = .returned (.tuple #[v, .int .i64 (rm [a] : Nat)]) ∧ RO w' (mkH a) v) ∧ Below w.heap.size w w' := by
  have hroom := room_rm (w := w.alloc (.cells #[x] 47)) (ts := [a]) (r := w.heap.size) (by simp) (by simp) (fun t ht => by
    simp only [List.mem_cons, List.not_mem_nil, or_false] at ht
    exact ka t ht.symm) (RLO.one ha)
  by_cases h0 : rm [a] = 0
  · obtain ⟨p, rfl⟩ := rm_nil h0 a (by simp)
    have ha' : RT w p x := ha
    obtain ⟨D, u, rfl⟩ := ha'.shape
    obtain ⟨n, hn⟩ : ∃ n : Nat, n = (Tm.hash p).size := ⟨_, rfl⟩
    have hsum : (if rm [some p] = 0 then 1 + sumS [some p] else 0) = n := by
      rw [if_pos h0, hn]; simp only [sumS, Tm.size]; omega
    rw [hsum, h0] at hroom
    go_enter Tryd.func70, Tryd.ntmps70
    go_wp2_with (go_at_call 69; refine Calls.mono hroom ?_)
    try simp only [and_imp]
    rintro e w1 rfl hb1
    go_wp2
    go_ret2
    have hB : Below w.heap.size w w1 := (al_below w _).trans (hb1.mono (al_below w _).size)
    have hA := al_below w1 (.cells #[.iface D u, .int .i64 ((Tm.hash p).size : Nat)] 100)
    refine ⟨⟨.iface 98 (.pointer (some ⟨w1.heap.size, 0, none⟩)), by rw [h0]; rfl, ?_⟩, hB.trans (hA.mono hB.size)⟩
    show RO _ (mkH (some p)) _
    unfold mkH
    simp only [h0, if_true]
    have hk := (KT.of_below hB).trans (KT.of_below hA)
    refine RT.hash p _ w1.heap.size ?_ (ha'.mono hk)
    show (w1.heap.push _)[w1.heap.size]? = _
    simp
  · have hne : ((rm [a] : Nat) : Int) ≠ 0 := by omega
    have hne1 : (((rm [a] : Nat) : Int) != 0) = true := bne_iff_ne.2 hne
    have hmk : mkH a = none := by
      unfold mkH
      split
      · rw [if_neg h0]
      · rfl
    rw [if_neg h0] at hroom
    generalize hm : ((rm [a] : Nat) : Int) = m at *
    rcases ha.shape with ⟨D, u, rfl⟩ | rfl
    all_goals
      go_enter Tryd.func70, Tryd.ntmps70
      go_wp2_with (go_at_call 69; refine Calls.mono hroom ?_)
      try simp only [and_imp]
      rintro e w1 rfl hb1
      go_wp2
      go_ret2
      exact ⟨⟨.nilIface, rfl, by rw [hmk]; rfl⟩, (al_below w _).trans (hb1.mono (al_below w _).size)⟩
end Go.Proofs.YthigfakjiknhcaaDoorT
