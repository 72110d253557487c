/- known, certificate, isUser, in. -/
import Derived.Test.YthigfakjiknhcaaDoorTv
namespace Go.Proofs.YthigfakjiknhcaaDoorT
open Go Go.Proofs Go.RowKit
set_option linter.unusedSimpArgs false
set_option linter.unusedVariables false
/-! ### a text without an error is a term's -/
theorem mkP_some {a b : Option Tm} (h : rm [a, b] = 0) : ∃ t, mkP a b = some t := by
  obtain ⟨x, rfl⟩ := rm_nil h a (by simp)
  obtain ⟨y, rfl⟩ := rm_nil h b (by simp)
  exact ⟨.pair x y, by unfold mkP; simp only; rw [if_pos h]⟩
theorem mkS_some {a b : Option Tm} (h : rm [a, b] = 0) : ∃ t, mkS a b = some t := by
  obtain ⟨x, rfl⟩ := rm_nil h a (by simp)
  obtain ⟨y, rfl⟩ := rm_nil h b (by simp)
  exact ⟨.lock x y, by unfold mkS; simp only; rw [if_pos h]⟩
theorem mkH_some {a : Option Tm} (h : rm [a] = 0) : ∃ t, mkH a = some t := by
  obtain ⟨x, rfl⟩ := rm_nil h a (by simp)
  exact ⟨.hash x, by unfold mkH; simp only; rw [if_pos h]⟩
theorem two_some {p : List UInt8 → Option Tm × Nat × List UInt8} {mk : Option Tm → Option Tm → Option Tm} (hm : ∀ a b, rm [a, b] = 0 → ∃ t, mk a b = some t) {c : UInt8} {s : List UInt8} (h : (two p mk c s).2.1 = 0) : ∃ t, (two p mk c s).1 = some t := by
  unfold two at h ⊢
  simp only at h ⊢
  split
  · rename_i h1; rw [if_pos h1] at h; exact absurd h h1
  rename_i h1; rw [if_neg h1] at h
  split
  · rename_i h2; rw [if_pos h2] at h; exact absurd h h2
  rename_i h2; rw [if_neg h2] at h
  split
  · rename_i h3; rw [if_pos h3] at h; exact absurd h h3
  rename_i h3; rw [if_neg h3] at h
  split
  · rename_i h4; rw [if_pos h4] at h; exact absurd h h4
  rename_i h4; rw [if_neg h4] at h
  exact hm _ _ h
theorem pT_some : ∀ (n : Nat) (s : List UInt8), (pT n s).2.1 = 0 → ∃ t, (pT n s).1 = some t
  | 0, s, h => by simp [pT] at h
  | _ + 1, [], h => by simp [pT] at h
  | n + 1, c :: r, h => by
    unfold pT at h ⊢
    split
    · rename_i h1; rw [if_pos h1] at h; exact two_some (fun a b => mkP_some) h
    rename_i h1; rw [if_neg h1] at h
    split
    · rename_i h2; rw [if_pos h2] at h; exact two_some (fun a b => mkS_some) h
    rename_i h2; rw [if_neg h2] at h
    split
    · rename_i h3; rw [if_pos h3] at h
      split
      · rename_i h4; rw [if_pos h4] at h; exact absurd h h4
      · rename_i h4; rw [if_neg h4] at h; exact mkH_some h
    · rename_i h3; rw [if_neg h3] at h
      simp only [aE] at h
      simp only [mkA]
      split at h
      · rename_i h4; rw [if_pos h4]; exact ⟨_, rfl⟩
      · cases h
theorem parse_some {s : List UInt8} (h : (parse s).2 = 0) : ∃ t, (parse s).1 = some t := by
  unfold parse at h ⊢
  split
  · rename_i h1; rw [if_pos h1] at h; cases h
  rename_i h1; rw [if_neg h1] at h
  simp only at h ⊢
  split
  · rename_i h2; rw [if_pos h2] at h; exact absurd h h2
  rename_i h2; rw [if_neg h2] at h
  split
  · rename_i h3; rw [if_pos h3] at h; cases h
  exact pT_some _ _ (by omega)
/-- is a text a known term's? -/
def knownB (ks : List (List UInt8)) (s : List UInt8) : Bool := decide ((parse s).2 = 0) && (match (parse s).1 with | some t => knB ks t | none => false)
theorem eq_zero' {n : Nat} (h : ¬ n = 0) : (((n : Nat) : Int) == 0) = false := by rw [beq_eq_false_iff_ne]; omega
set_option maxHeartbeats 8000000 in
set_option maxRecDepth 1000000 in
theorem known_any {n0 : Nat} {w : World} {b kb : Nat} {vs vr : Value} {ps pr : List Nat} {σ : St} (h : WX n0 w b kb vs vr ps pr σ) (s : List UInt8) (hl : s.length ≤ 100000) :
    Calls Tryd.prog 38 #[.pointer (some ⟨b, 0, none⟩), str s] w fun e w' => (∃ v, e = .returned (.tuple #[v, .bool (knownB σ.ks s)]) ∧ RO w' (parse s).1 v) ∧ Below w.heap.size w w' := by
  have h57 := parse_any (w := w) s hl
  have hgp := good_parse s
  have hk : knownB σ.ks s = (decide ((parse s).2 = 0) && (match (parse s).1 with | some t => knB σ.ks t | none => false)) := rfl
  by_cases hz : (parse s).2 = 0
  · obtain ⟨t, ht⟩ := parse_some hz
    rw [hz] at h57
    rw [hz, ht, decide_eq_true rfl, Bool.true_and] at hk
    simp only at hk
    rw [ht] at h57 hgp ⊢
    have hg := hgp t rfl
    have HK := Lib.hid hk
    clear hk
    generalize knownB σ.ks s = B at *
    have hB := HK.out
    subst hB
    go_enter Tryd.func38, Tryd.ntmps38
    go_wp2_with (go_at_call 57; refine Calls.mono h57 (fun e w1 hp => ?_); obtain ⟨⟨v, rfl, hv⟩, b1⟩ := hp; have hx1 := h.below b1; have c0 := hx1.cell0; have h58 := knows_any (by have := hg.2.1; omega) hg.len hv hx1.st; obtain ⟨D, u, rfl⟩ := RT.shape hv)
    go_wp2_with (go_at_call 58; refine Calls.mono h58 (fun e w2 hp => ?_); obtain ⟨rfl, b2⟩ := hp)
    go_ret2
    exact ⟨⟨_, rfl, RO.below hv b2⟩, b1.trans (b2.mono b1.size)⟩
  · rw [decide_eq_false hz, Bool.false_and] at hk
    rw [hk]
    have hz1 := eq_zero' hz
    go_enter Tryd.func38, Tryd.ntmps38
    go_wp2_with (go_at_call 57; refine Calls.mono h57 (fun e w1 hp => ?_); obtain ⟨⟨v, rfl, hv⟩, b1⟩ := hp)
    go_ret2
    exact ⟨⟨_, rfl, hv⟩, b1⟩
/-! ### certificates -/
/-- does a text begin so? -/
def headB (s : List UInt8) : Bool := match s with | [] => false | c :: _ => decide (c = 104)
set_option maxHeartbeats 8000000 in
set_option maxRecDepth 1000000 in
theorem pref_any (s : List UInt8) (hl : s.length ≤ 100000) (w : World) : Calls Tryd.prog 54 #[str s, .string ⟨#[104]⟩] w fun e w' => e = .returned (.bool (headB s)) ∧ w' = w := by
  have h64 : Calls Tryd.prog 64 #[str s, .string ⟨#[104]⟩] w fun e w' => e = .returned (.bool (headB s)) ∧ w' = w := by
    cases s with
    | nil =>
      go_enter Tryd.func64, Tryd.ntmps64
      go_wp2
      go_ret
      exact ⟨rfl, rfl⟩
    | cons c r =>
      have h1 : (1 : Int) ≤ (((c :: r).length : Nat) : Int) := by simp; omega
      have hext := ext_take (c :: r) 1 (by simp)
      have hb : ((c :: r).take 1 == [104]) = headB (c :: r) := by
        show ([c] == [104]) = decide (c = 104)
        by_cases hc : c = 104
        · subst hc; rfl
        · rw [decide_eq_false hc]; simpa using hc
      generalize headB (c :: r) = B at *
      generalize hs : c :: r = s at *
      have hp : 0 < s.length := by rw [← hs]; simp
      generalize s.take 1 = q at *
      go_enter Tryd.func64, Tryd.ntmps64
      go_wp2
      go_ret
      exact ⟨rfl, rfl⟩
  generalize headB s = B at *
  go_enter Tryd.func54, Tryd.ntmps54
  go_wp2_with (go_at_call 64; refine Calls.mono h64 (fun e w1 hp => ?_); obtain ⟨rfl, rfl⟩ := hp)
  go_ret
  exact ⟨rfl, rfl⟩
/-- is a text a certificate's? -/
def certB (s : List UInt8) : Bool := atB s && headB s
set_option maxHeartbeats 8000000 in
set_option maxRecDepth 1000000 in
theorem cert_any (s : List UInt8) (hl : s.length ≤ 100000) (w : World) : Calls Tryd.prog 34 #[str s] w fun e w' => (∃ v, e = .returned (.tuple #[v, .bool (certB s)]) ∧ RO w' (mkA s) v) ∧ w' = w := by
  have h12 := atom_any (w := w) s (by omega)
  have h54 := pref_any s hl w
  have hc : certB s = (atB s && headB s) := rfl
  cases hA : atB s with
  | true =>
    rw [hA, Bool.true_and] at hc
    have he : aE s = 0 := by unfold aE; rw [hA]; rfl
    have hm : mkA s = some (.atom s) := by unfold mkA; rw [hA]; rfl
    rw [hm] at h12 ⊢
    rw [he] at h12
    rw [← hc] at h54
    generalize certB s = B at *
    clear hc
    go_enter Tryd.func34, Tryd.ntmps34
    go_wp2_with (go_at_call 12; refine Calls.mono h12 (fun e w1 hp => ?_); obtain ⟨⟨v, rfl, hv⟩, rfl⟩ := hp; obtain ⟨D, u, rfl⟩ := RT.shape hv)
    go_wp2_with (go_at_call 54; refine Calls.mono h54 (fun e w1 hp => ?_); obtain ⟨rfl, rfl⟩ := hp)
    go_ret2
    exact ⟨⟨_, rfl, hv⟩, rfl⟩
  | false =>
    rw [hA, Bool.false_and] at hc
    have he : aE s = 3 := by unfold aE; rw [hA]; rfl
    have hm : mkA s = none := by unfold mkA; rw [hA]; rfl
    rw [hm] at h12 ⊢
    rw [he] at h12
    rw [hc]
    go_enter Tryd.func34, Tryd.ntmps34
    go_wp2_with (go_at_call 12; refine Calls.mono h12 (fun e w1 hp => ?_); obtain ⟨⟨v, rfl, hv⟩, rfl⟩ := hp; have hv2 : v = .nilIface := hv; subst hv2)
    go_ret2
    exact ⟨⟨_, rfl, hv⟩, rfl⟩
/-! ### users, places -/
def userB (u : Int) : Bool := decide (0 ≤ u) && decide (u < 4)
set_option maxHeartbeats 8000000 in
set_option maxRecDepth 1000000 in
theorem user_any (u : Int) (w : World) : Calls Tryd.prog 26 #[.int .i64 u] w fun e w' => e = .returned (.bool (userB u)) ∧ w' = w := by
  unfold userB
  by_cases h1 : 0 ≤ u
  · by_cases h2 : u < 4
    · rw [decide_eq_true h1, decide_eq_true h2]
      go_enter Tryd.func26, Tryd.ntmps26
      go_wp2
      go_ret
      exact ⟨rfl, rfl⟩
    · rw [decide_eq_true h1, decide_eq_false h2]
      go_enter Tryd.func26, Tryd.ntmps26
      go_wp2
      go_ret
      exact ⟨rfl, rfl⟩
  · rw [decide_eq_false h1]
    go_enter Tryd.func26, Tryd.ntmps26
    go_wp2
    go_ret
    exact ⟨rfl, rfl⟩
/-- what in answers -/
def InPost (ps : List Nat) (o : Option Nat) (e : Ending) : Prop :=
  (∃ k p, o = some k ∧ ps[k]? = some p ∧ e = .returned (.tuple #[.pointer (some ⟨p, 0, none⟩), .bool true])) ∨ (o = none ∧ e = .returned (.tuple #[.pointer none, .bool false]))
/-- the place of an end in a state -/
def inO (es : List EndP) (i : Int) (st : Nat) : Option Nat :=
  if 0 ≤ i then (match es[i.toNat]? with | some e => if e.st = st then some i.toNat else none | none => none) else none
theorem PS.cell {n0 : Nat} {w : World} {v : Value} {ps : List Nat} (h : PS n0 w v ps) {k p : Nat} (hk : ps[k]? = some p) : ∃ g cap, v = .slice (some ⟨g, 0, none⟩) ps.length cap ∧ w.cell? ⟨g, k, none⟩ = some (.pointer (some ⟨p, 0, none⟩)) := by
  have hlt := (List.getElem?_eq_some_iff.1 hk).1
  obtain ⟨g, cap, rfl, _, _⟩ := h.form (by omega)
  have := h.cells (g := g) rfl k (.pointer (some ⟨p, 0, none⟩)) (by rw [List.getElem?_map, hk]; rfl)
  refine ⟨g, cap, rfl, ?_⟩
  have hadd : (⟨g, 0, none⟩ : Addr).add k = ⟨g, k, none⟩ := by unfold Addr.add; split <;> simp_all
  rw [hadd] at this
  exact this
theorem PS.shape {n0 : Nat} {w : World} {v : Value} {ps : List Nat} (h : PS n0 w v ps) : ∃ A cap, v = .slice A ps.length cap := by
  rcases h.2 with ⟨rfl, h0⟩ | ⟨g, cap, cur, rfl, _⟩
  · exact ⟨none, 0, by rw [h0]⟩
  · exact ⟨_, _, rfl⟩
theorem EB.c0 {w : World} {p : Nat} {e : EndP} (h : EB w p e) : w.cell? ⟨p, 0, none⟩ = some (.int .i64 (e.st : Nat)) := by
  obtain ⟨vh, vn, vo, vr, h0, _⟩ := h
  rw [cell_at h0 0]; rfl
set_option maxHeartbeats 8000000 in
set_option maxRecDepth 1000000 in
theorem in_any {n0 : Nat} {w : World} {v : Value} {ps : List Nat} {es : List EndP} (h : PS n0 w v ps) (he : EL w ps es) (hlen : ps.length ≤ 1000) (i : Int) (st : Nat) :
    Calls Tryd.prog 37 #[v, .int .i64 i, .int .i64 (st : Nat)] w fun e w' => InPost ps (inO es i st) e ∧ w' = w := by
  unfold inO
  by_cases h0 : 0 ≤ i
  · rw [if_pos h0]
    obtain ⟨k, rfl⟩ : ∃ k : Nat, i = k := ⟨i.toNat, by omega⟩
    rw [Int.toNat_natCast]
    have hneg : ¬ ((k : Nat) : Int) < 0 := by omega
    by_cases hk : k < ps.length
    · have hgp := List.getElem?_eq_getElem hk
      have hge := List.getElem?_eq_getElem (show k < es.length by have := he.1; omega)
      have heb := he.2 k _ _ hgp hge
      have hk2 : ¬ ((ps.length : Nat) : Int) ≤ ((k : Nat) : Int) := by omega
      have hk3 : ((k : Nat) : Int) < ((ps.length : Nat) : Int) := by omega
      rw [hge]
      obtain ⟨g, cap, rfl, hc⟩ := h.cell hgp
      have c0 := heb.c0
      generalize ps[k] = p at *
      generalize es[k]'_ = e0 at *
      simp only
      by_cases hst : e0.st = st
      · rw [if_pos hst]
        have hne : (((e0.st : Nat) : Int) != ((st : Nat) : Int)) = false := by rw [hst, bne_self_eq_false]
        generalize ps.length = L at *
        go_enter Tryd.func37, Tryd.ntmps37
        go_wp2
        go_ret2
        exact ⟨Or.inl ⟨k, p, rfl, hgp, rfl⟩, rfl⟩
      · rw [if_neg hst]
        have hne : (((e0.st : Nat) : Int) != ((st : Nat) : Int)) = true := by rw [bne_iff_ne]; omega
        generalize ps.length = L at *
        go_enter Tryd.func37, Tryd.ntmps37
        go_wp2
        go_ret2
        exact ⟨Or.inr ⟨rfl, rfl⟩, rfl⟩
    · have hk2 : ((ps.length : Nat) : Int) ≤ ((k : Nat) : Int) := by omega
      rw [List.getElem?_eq_none (show es.length ≤ k by have := he.1; omega)]
      obtain ⟨A, cap, rfl⟩ := h.shape
      generalize ps.length = L at *
      go_enter Tryd.func37, Tryd.ntmps37
      go_wp2
      go_ret2
      exact ⟨Or.inr ⟨rfl, rfl⟩, rfl⟩
  · rw [if_neg h0]
    have h1 : i < 0 := by omega
    go_enter Tryd.func37, Tryd.ntmps37
    go_wp2
    go_ret2
    exact ⟨Or.inr ⟨rfl, rfl⟩, rfl⟩
end Go.Proofs.YthigfakjiknhcaaDoorT
