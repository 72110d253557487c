/- The store: Steps, Knows. -/
import Derived.Test.YthigfakjiknhcaaDoorTp
import Derived.Lib.Hide
namespace Go.Proofs.YthigfakjiknhcaaDoorT
open Go Go.Proofs Go.RowKit
set_option linter.unusedSimpArgs false
set_option linter.unusedVariables false
/-- is a term known? -/
def knB (ks : List (List UInt8)) : Tm → Bool
  | .atom s => decide (s ∈ ks)
  | .pair a b => decide ((Tm.pair a b).text ∈ ks) || (knB ks a && knB ks b)
  | .hash a => decide ((Tm.hash a).text ∈ ks) || knB ks a
  | .lock k a => decide ((Tm.lock k a).text ∈ ks) || (knB ks k && knB ks a)
theorem knB_parts (ks : List (List UInt8)) (t : Tm) : knB ks t = (decide (t.text ∈ ks) || (decide (t.kind ≠ 1) && t.parts.all (knB ks))) := by
  cases t <;> simp [knB, Tm.kind, Tm.parts, Tm.text] <;> congr
def sumT : List Tm → Nat
  | [] => 0
  | t :: r => t.size + sumT r
theorem sumT_app : ∀ (l r : List Tm), sumT (l ++ r) = sumT l + sumT r
  | [], r => by simp [sumT]
  | t :: l, r => by simp only [List.cons_append, sumT, sumT_app l r]; omega
theorem sumT_parts (t : Tm) : t.size = 1 + sumT t.parts := by cases t <;> simp [Tm.size, Tm.parts, sumT] <;> omega
theorem sumT_take {l : List Tm} {k : Nat} {t : Tm} (h : l[k]? = some t) : sumT (l.take (k + 1)) = sumT (l.take k) + t.size := by
  rw [List.take_add_one, h, sumT_app]; simp [sumT]
theorem sumT_le (l : List Tm) (k : Nat) : sumT (l.take k) ≤ sumT l := by
  have := sumT_app (l.take k) (l.drop k)
  rw [List.take_append_drop] at this
  omega
theorem text_part {t p : Tm} {j : Nat} (h : t.parts[j]? = some p) : p.text.length ≤ t.text.length := by
  cases t with
  | atom s => simp [Tm.parts] at h
  | hash a => match j, h with
    | 0, h => cases h; simp [Tm.text]
    | j + 1, h => simp [Tm.parts] at h
  | pair a b => match j, h with
    | 0, h => cases h; simp [Tm.text]; omega
    | 1, h => cases h; simp [Tm.text]; omega
    | j + 2, h => simp [Tm.parts] at h
  | lock a b => match j, h with
    | 0, h => cases h; simp [Tm.text]; omega
    | 1, h => cases h; simp [Tm.text]; omega
    | j + 2, h => simp [Tm.parts] at h
theorem all_take {f : Tm → Bool} {l : List Tm} {k : Nat} {p : Tm} (h : l[k]? = some p) : (l.take (k + 1)).all f = ((l.take k).all f && f p) := by
  rw [List.take_add_one, h, List.all_append]
  simp only [Option.toList, List.all_cons, List.all_nil, Bool.and_true]
/-- what Steps says of a term -/
def StepsOK (ks : List (List UInt8)) (t : Tm) : Prop := ∀ (w : World) (b : Nat) (v : Value), t.size ≤ 10000 → t.text.length ≤ 50000 → RT w t v → SB w b ks →
  Calls Tryd.prog 67 #[.pointer (some ⟨b, 0, none⟩), v] w fun e w' => (∃ r : Int, e = .returned (.int .i64 r) ∧ ((knB ks t = true ∧ 0 ≤ r ∧ r ≤ t.size) ∨ (knB ks t = false ∧ r = -1))) ∧ Below w.heap.size w w'
theorem drew_below (w : World) (n : Nat) : Below w.heap.size w (w.drewN n) := ⟨rfl, rfl, rfl, Nat.le_refl _, fun _ _ => rfl⟩
set_option maxHeartbeats 8000000 in
set_option maxRecDepth 1000000 in
theorem steps_step {ks : List (List UInt8)} {t : Tm} (ih : ∀ (p : Tm) (j : Nat), t.parts[j]? = some p → StepsOK ks p) : StepsOK ks t := by
  intro w b v hs hl h hS
  have hok := ok_any hS
  have hkb := knB_parts ks t
  have hsz := sumT_parts t
  obtain ⟨D, u, rfl⟩ := h.shape
  have hb := hS.lt
  have hS0 := hS
  obtain ⟨m, h1, h2⟩ := hS
  have c0 := cell_at h1 0
  simp at c0
  have hlk : ∀ n, (Instr.lookup 57 (.map (some m)) (str t.text) false).run Tryd.prog (w.drewN n) = .ok (.bool (decide (t.text ∈ ks))) (w.drewN n) := fun n => look_any (h2.drewN n) t.text
  by_cases hin : t.text ∈ ks
  · have hd : decide (t.text ∈ ks) = true := decide_eq_true hin
    rw [hd] at hlk hkb
    go_enter Tryd.func67, Tryd.ntmps67
    go_wp2_with (go_at_call 29; refine Calls.mono hok (fun e w1 hp => ?_); obtain ⟨rfl, rfl⟩ := hp)
    go_quiet (first | (go_at_call 45; refine Calls.quiet_of (text_any t _ _ hl (h.drewN _))))
    go_wp2
    go_ret
    exact ⟨⟨0, rfl, Or.inl ⟨by rw [hkb]; rfl, by omega, by omega⟩⟩, drew_below _ _⟩
  · have hd : decide (t.text ∈ ks) = false := decide_eq_false hin
    rw [hd, Bool.false_or] at hkb
    rw [hd] at hlk
    have h52 := fun n => kind_any (h.drewN n)
    by_cases hkd : t.kind = 1
    · have hk1 : (((t.kind : Nat) : Int) == 1) = true := by rw [hkd]; rfl
      go_enter Tryd.func67, Tryd.ntmps67
      go_wp2_with (go_at_call 29; refine Calls.mono hok (fun e w1 hp => ?_); obtain ⟨rfl, rfl⟩ := hp)
      go_quiet (first | (go_at_call 45; refine Calls.quiet_of (text_any t _ _ hl (h.drewN _))))
      generalize ((t.kind : Nat) : Int) = kd at *
      go_wp2_with (go_at_call 52; refine Calls.mono (h52 _) (fun e w1 hp => ?_); obtain ⟨rfl, rfl⟩ := hp)
      go_ret
      exact ⟨⟨-1, rfl, Or.inr ⟨by rw [hkb, decide_eq_false (by simpa using hkd)]; rfl, rfl⟩⟩, drew_below _ _⟩
    · have hk1 : (((t.kind : Nat) : Int) == 1) = false := by rw [beq_eq_false_iff_ne]; omega
      rw [decide_eq_true (show t.kind ≠ 1 from hkd), Bool.true_and] at hkb
      have HK := Lib.hid hkb
      clear hkb
      have hlen : t.parts.length ≤ 2 := by cases t <;> simp [Tm.parts]
      go_enter Tryd.func67, Tryd.ntmps67
      go_wp2_with (go_at_call 29; refine Calls.mono hok (fun e w1 hp => ?_); obtain ⟨rfl, rfl⟩ := hp)
      go_quiet (first | (go_at_call 45; refine Calls.quiet_of (text_any t _ _ hl (h.drewN _))))
      generalize ((t.kind : Nat) : Int) = kd at *
      go_wp2_with (go_at_call 52; refine Calls.mono (h52 _) (fun e w1 hp => ?_); obtain ⟨rfl, rfl⟩ := hp)
      go_wp2_with (go_at_call 53; refine Calls.mono (parts_any (h.drewN _)) (fun e w2 hp => ?_); obtain ⟨⟨x, rfl, hL⟩, hb2⟩ := hp; obtain ⟨A, rfl⟩ : ∃ A, x = .slice A t.parts.length t.parts.length := (by
        rcases hL with ⟨h1, h2⟩ | ⟨r, h1, _⟩
        · exact ⟨none, by rw [h2]; exact h1⟩
        · exact ⟨_, h1⟩))
      have hb3 := (drew_below w1 nq).trans hb2
      have hS2 := hS0.below hb3
      go_loopw [5, 32] (fun vn vi wr => ∃ k : Nat, vi = .int .i64 k ∧ k ≤ t.parts.length ∧ (∃ c : Int, vn = .int .i64 c ∧ 1 ≤ c ∧ c ≤ 1 + sumT (t.parts.take k)) ∧ (t.parts.take k).all (knB ks) = true ∧ Below w2.heap.size w2 wr) (fun _ vi _ => t.parts.length - (intOf vi).toNat)
      case atStart => exact ⟨0, rfl, Nat.zero_le _, ⟨1, rfl, by omega, by simp [sumT]⟩, rfl, Below.refl _ _⟩
      case round =>
        obtain ⟨k, rfl, hk, ⟨c, rfl, hc1, hc2⟩, hall, hbw⟩ := hrel
        have hLr := hL.below hbw
        have hSr := hS2.below hbw
        have hle := sumT_le t.parts k
        by_cases hlt : k < t.parts.length
        · rcases hLr with ⟨h1, h2⟩ | ⟨r, h1, h2⟩
          · rw [h2] at hlt; simp at hlt
          · cases h1
            have hg := List.getElem?_eq_getElem hlt
            obtain ⟨y, c0, hy⟩ := h2 k _ hg
            have hsuc := sumT_take hg
            have hle2 := sumT_le t.parts (k + 1)
            have htp := text_part hg
            have htake := all_take (f := knB ks) hg
            have hmem : t.parts.all (knB ks) = true → knB ks t.parts[k] = true := fun hh => List.all_eq_true.1 hh _ (List.getElem_mem hlt)
            have i1 := ih _ k hg wr b y
            generalize t.parts[k] = p at *
            have hk1 : ((k : Nat) : Int) < ((t.parts.length : Nat) : Int) := by omega
            have i2 := i1 (by omega) (by omega) hy hSr
            go_wp2_with (go_at_call 67; refine Calls.mono i2 (fun e w3 hp => ?_); obtain ⟨⟨rr, rfl, hrr⟩, hb4⟩ := hp; rcases hrr with ⟨g1, g2, g3⟩ | ⟨g1, rfl⟩)
            · have hm1 : (rr == (-1 : Int)) = false := by rw [beq_eq_false_iff_ne]; omega
              have hwr : wrap64 (c + rr) = c + rr := wrap64_small (by omega) (by omega)
              go_wp2
              go_roundw
              case rel =>
                refine ⟨k + 1, by go_num, by omega, ⟨c + rr, ?_, by omega, by omega⟩, by rw [htake, hall, g1]; rfl, hbw.trans (hb4.mono hbw.size)⟩
                first | rfl | (rw [hwr])
              case measure => simp [intOf]; omega
            · go_wp2
              go_ret
              refine ⟨⟨-1, rfl, Or.inr ⟨?_, rfl⟩⟩, (hb3.trans (hbw.mono hb3.size)).trans (hb4.mono (Nat.le_trans hb3.size hbw.size))⟩
              rw [HK.out]
              cases hq : t.parts.all (knB ks) with
              | false => rfl
              | true => have := hmem hq; rw [g1] at this; cases this
        · have hk1 : ¬ ((k : Nat) : Int) < ((t.parts.length : Nat) : Int) := by omega
          go_wp2
          go_ret
          have hkl : k = t.parts.length := by omega
          subst hkl
          rw [List.take_length] at hall hc2
          exact ⟨⟨c, rfl, Or.inl ⟨by rw [HK.out]; exact hall, by omega, by omega⟩⟩, hb3.trans (hbw.mono hb3.size)⟩
theorem steps_any (ks : List (List UInt8)) : ∀ t, StepsOK ks t := by
  intro t
  induction t with
  | atom s => exact steps_step (fun p j hj => by simp [Tm.parts] at hj)
  | hash a iha =>
    refine steps_step (fun p j hj => ?_)
    match j, hj with
    | 0, hj => cases hj; exact iha
    | j + 1, hj => simp [Tm.parts] at hj
  | pair a b iha ihb =>
    refine steps_step (fun p j hj => ?_)
    match j, hj with
    | 0, hj => cases hj; exact iha
    | 1, hj => cases hj; exact ihb
    | j + 2, hj => simp [Tm.parts] at hj
  | lock a b iha ihb =>
    refine steps_step (fun p j hj => ?_)
    match j, hj with
    | 0, hj => cases hj; exact iha
    | 1, hj => cases hj; exact ihb
    | j + 2, hj => simp [Tm.parts] at hj
set_option maxHeartbeats 8000000 in
set_option maxRecDepth 1000000 in
theorem knows_any {w : World} {b : Nat} {ks : List (List UInt8)} {t : Tm} {v : Value} (hs : t.size ≤ 10000) (hl : t.text.length ≤ 50000) (h : RT w t v) (hS : SB w b ks) :
    Calls Tryd.prog 58 #[.pointer (some ⟨b, 0, none⟩), v] w fun e w' => e = .returned (.bool (knB ks t)) ∧ Below w.heap.size w w' := by
  have i1 := steps_any ks t w b v hs hl h hS
  obtain ⟨D, u, rfl⟩ := h.shape
  go_enter Tryd.func58, Tryd.ntmps58
  go_wp2_with (go_at_call 67; refine Calls.mono i1 (fun e w1 hp => ?_); obtain ⟨⟨rr, rfl, hrr⟩, hb1⟩ := hp; rcases hrr with ⟨g1, g2, g3⟩ | ⟨g1, rfl⟩)
  · have hm1 : (rr != (-1 : Int)) = true := by rw [bne_iff_ne]; omega
    go_wp2
    go_ret
    refine ⟨?_, hb1⟩
    rw [g1]
    show Ending.returned (.bool (rr != -1)) = _
    rw [hm1]
  · go_wp2
    go_ret
    exact ⟨by rw [g1]; rfl, hb1⟩
end Go.Proofs.YthigfakjiknhcaaDoorT
