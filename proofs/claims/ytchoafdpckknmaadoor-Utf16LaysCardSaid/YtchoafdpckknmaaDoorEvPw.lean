/- Parse: the walk. -/
import Derived.Test.YtchoafdpckknmaaDoorEvPa
import Derived.Test.YtchoafdpckknmaaDoorEvBd
import Derived.Test.YtchoafdpckknmaaDoorEvJo
import Derived.Lib.OthersKept
import Derived.WalkKit
import Derived.BigCall
namespace Go.Proofs.YtchoafdpckknmaaDoorE.U0
open Go Go.Proofs Go.RowKit
set_option linter.unusedSimpArgs false
set_option linter.unusedVariables false
/-- the evaluator answers: so does the call, and nothing that was there is turned -/
theorem calls_of {f g : Nat} {xs : List V} {ys : Array Value} {v : V} {w : World} (htb : VarOK (Old w) w) (hm : mF f = some g) (hF : ∃ fn, FT g = some fn) (ha : Ans FT XT g xs [] v []) (hx : RelVs mF (Old w) w noPl xs ys.toList) :
    Calls Tryd.prog f ys w (fun e w' => (∃ x I' ρ', e = .returned x ∧ RelV mF I' w' ρ' v x) ∧ Below w.heap.size w w') := by
  obtain ⟨n, ha⟩ := ha
  have hmix : Tryd.prog.follows .mixedOrders = true := by kernel_rfl
  have hH : HRel mF (Old w) (fun _ => False) w noPl [] := ⟨fun i j r h => by simp [noPl] at h, fun i r h => by simp [noPl] at h, fun i r h => by simp [noPl] at h, fun k h => h.elim, fun k h => h, fun k _ h => h, htb⟩
  have hs : Calls Tryd.prog f ys w (fun e w' => ∃ x I' O' ρ', e = .returned x ∧ RelV mF I' w' ρ' v x ∧ HRel mF I' O' w' ρ' [] ∧ CG 0 (Old w) (fun _ => False) w noPl [] I' O' w' ρ' []) := by
    rcases evF_sound hmix link (xt_snd hmix xok) n f g xs [] [] v hm ha _ _ w noPl ys hx hH with h | ⟨x, w', h, _⟩
    · exact h.2
    · obtain ⟨fn, hF⟩ := hF
      obtain ⟨pf, hpf, ok⟩ := link f g fn hm hF
      obtain ⟨c, _, hc, _⟩ := ok.body
      rw [run_enter ⟨pf, hpf, by simp [hc], ok.name⟩] at h
      cases h
  refine hs.mono (fun e w' he => ?_)
  obtain ⟨x, I', O', ρ', rfl, h1, h2, h3⟩ := he
  exact ⟨⟨x, I', ρ', rfl, h1⟩, h3.ext.os, h3.ext.tape, h3.ext.output, h3.ext.size, fun k hk => h3.ext.block k hk (fun h => h)⟩
/-- where bytes lie -/
def At (w : World) (A : Option Addr) (rc : Nat) (l : List Nat) : Prop := l.length ≤ rc ∧ (A = none → rc = 0) ∧ ∀ j n, l[j]? = some n → ∃ r o, A = some ⟨r, o, none⟩ ∧ w.cell? ⟨r, o + j, none⟩ = some (.int .u8 ((n : Nat) : Int))
theorem cell_old {w : World} {r j : Nat} {v : Value} (h : w.cell? ⟨r, j, none⟩ = some v) : r < w.heap.size := by
  rcases Nat.lt_or_ge r w.heap.size with hr | hr
  · exact hr
  · exfalso
    simp [World.cell?, Array.getElem?_eq_none hr] at h
theorem At.below {w w' : World} {A : Option Addr} {rc : Nat} {l : List Nat} (h : At w A rc l) (hb : Below w.heap.size w w') : At w' A rc l := by
  refine ⟨h.1, h.2.1, fun j n hn => ?_⟩
  obtain ⟨r, o, h1, h2⟩ := h.2.2 j n hn
  exact ⟨r, o, h1, by rw [cell?_same (w := w) (w' := w') (a := ⟨r, o + j, none⟩) (hb.block r (cell_old h2))]; exact h2⟩
theorem At.rel {w : World} {A : Option Addr} {rc : Nat} {l : List Nat} (h : At w A rc l) : RelV mF (Old w) w noPl (.tb (.int .u8) (nI l)) (.slice A l.length rc) := by
  refine .tb _ _ _ _ ?_
  have e : tbRs (.int .u8) (nI l) = .rs l.length (.ints .u8 (nI l)) := by
    show V.rs (nI l).length _ = _
    rw [nI_len]
  rw [e]
  have get : ∀ j v, (C.ints .u8 (nI l)).get j = some v → ∃ n, l[j]? = some n ∧ v = .int .u8 ((n : Nat) : Int) := by
    intro j v hj
    simp only [C.get, Option.map_eq_some_iff, nI_get] at hj
    obtain ⟨m, ⟨n, h1, rfl⟩, rfl⟩ := hj
    exact ⟨n, h1, rfl⟩
  refine .rs _ _ _ _ _ (fun j => .int .u8 ((l.getD j 0 : Nat) : Int)) h.1 (fun j v hj => ?_) (fun j v hj => ?_) h.2.1
  · obtain ⟨n, hn, rfl⟩ := get j v hj
    obtain ⟨r, o, h1, h2⟩ := h.2.2 j n hn
    refine ⟨rfl, r, o, h1, cell_old h2, ?_⟩
    rw [h2, List.getD_eq_getElem?_getD, hn]; rfl
  · obtain ⟨n, hn, rfl⟩ := get j v hj
    rw [List.getD_eq_getElem?_getD, hn]
    exact .int _ _ _
theorem varOK_below {w w' : World} (h : VarOK (Old w) w) (hb : Below w.heap.size w w') : VarOK (Old w') w' :=
  h.step (fun k hk => Nat.lt_of_lt_of_le hk hb.size) (fun k hk => hb.block k hk)
theorem sign_calls {w : World} (htb : VarOK (Old w) w) {l : List Nat} {A : Option Addr} {rc : Nat} (hb : bel 256 l) (h2 : 2 ≤ l.length) (hA : At w A rc l) {c k : Nat} (hs : sg l = ((c : Int), (k : Int))) :
    Calls Tryd.prog 23 #[.slice A l.length rc] w fun e w' => e = .returned (.tuple #[.int .i32 (c : Int), .int .i64 (k : Int)]) ∧ Below w.heap.size w w' := by
  have ha := E413.2 (nI l, ()) ((c : Int), (k : Int)) (by rw [← hs]; exact h413_is hb h2)
  refine (calls_of htb (g := 413) rfl ⟨_, rfl⟩ ha (relVs_cons hA.rel relVs_nil)).mono fun e w' h => ?_
  obtain ⟨⟨x, I', ρ', rfl, hx⟩, hbl⟩ := h
  refine ⟨?_, hbl⟩
  have hx' : RelV mF I' w' ρ' (.tup [.int .i32 (c : Int), .int .i64 (k : Int)]) x := hx
  cases hx' with
  | tup _ _ vs hs hf =>
    obtain ⟨vs⟩ := vs
    match vs, hs with
    | [y, z], _ =>
      have g1 := hf 0 _ y rfl rfl
      have g2 := hf 1 _ z rfl rfl
      cases g1
      cases g2
      rfl
theorem count_calls {w : World} (htb : VarOK (Old w) w) {s : List UInt8} {n : Int} (h : h397 s = some n) :
    Calls Tryd.prog 22 #[.string ⟨s.toArray⟩] w fun e w' => e = .returned (.int .i64 n) ∧ Below w.heap.size w w' := by
  have ha := E397.2 (s, ()) n h
  refine (calls_of htb (g := 397) rfl ⟨_, rfl⟩ ha (relVs_cons (.str _ _) relVs_nil)).mono fun e w' h => ?_
  obtain ⟨⟨x, I', ρ', rfl, hx⟩, hbl⟩ := h
  have hx' : RelV mF I' w' ρ' (.int .i64 n) x := hx
  cases hx'
  exact ⟨rfl, hbl⟩
/-! ### what Parse answers -/
def finS (acc : List UInt8) : Option (List UInt8 × Int) := match h397 acc with | none => none | some n => if 64 < n then some ([], 8) else some (acc, 0)
def prs : Nat → List Nat → List UInt8 → Option (List UInt8 × Int)
  | 0, _, _ => none
  | n + 1, l, acc => if l.length = 0 then finS acc else if (sg l).2 = 0 then some ([], 3) else prs n (l.drop (sg l).2.toNat) (acc ++ Lib.encodeRune (sg l).1)
def prsX (l : List Nat) : Option (List UInt8 × Int) := if l.length % 2 ≠ 0 then some ([], 4) else prs (l.length + 1) l []
theorem bat_below {T e : TypeId} {B b : Nat} {p : Value} {bs : List Value} {W W' : World} (h : Lib.BuilderAtF T e B b p bs W) (hb : Below W.heap.size W W') : Lib.BuilderAtF T e B b p bs W' := by
  obtain ⟨hB, v, hv, hown, hne⟩ := h
  have hlt : b < W.heap.size := (Array.getElem?_eq_some_iff.1 hv).1
  exact ⟨hB, v, (hb.block b hlt).trans hv, hown.kept (row := none) ⟨hb.os, hb.tape, hb.output, hb.size, fun k hk _ => hb.block k hk⟩ (Classical.em _), hne⟩
theorem bf_below {T e : TypeId} {B b : Nat} {bs : List Value} {W W' : World} (h : Lib.IsBuilderF T e B b bs W) (hb : Below W.heap.size W W') : Lib.IsBuilderF T e B b bs W' :=
  h.elim (fun x => .inl (bat_below x hb)) (fun x => .inr (bat_below x hb))
def lenV : Value → Nat | .slice _ n _ => n | _ => 0
theorem At.drop {w : World} {r o rc k : Nat} {l : List Nat} (h : At w (some ⟨r, o, none⟩) rc l) (hk : k ≤ l.length) : At w (some ⟨r, o + k, none⟩) (rc - k) (l.drop k) := by
  refine ⟨by have := h.1; rw [List.length_drop]; omega, (fun h => by cases h), fun j n hn => ?_⟩
  rw [List.getElem?_drop] at hn
  obtain ⟨r', o', h1, h2⟩ := h.2.2 _ n hn
  cases h1
  exact ⟨r, o + k, rfl, by rw [Nat.add_assoc]; exact h2⟩
set_option maxHeartbeats 4000000 in
set_option maxRecDepth 1000000 in
theorem parse_calls {w : World} (htb : VarOK (Old w) w) {l : List Nat} {A : Option Addr} {rc : Nat} (hb : bel 256 l) (hl : l.length ≤ 1000) (hA : At w A rc l) {s : List UInt8} {e : Int} (hp : prsX l = some (s, e)) :
    Calls Tryd.prog 16 #[.slice A l.length rc] w fun ex w' => ex = .returned (.tuple #[.string ⟨s.toArray⟩, .int .i64 e]) ∧ Below w.heap.size w w' := by
  by_cases ho : l.length % 2 = 0
  case neg =>
    rw [prsX, if_pos ho] at hp
    cases hp
    have hz : ((l.length : Int) % 2 != 0) = true := by rw [bne_iff_ne]; omega
    go_enter Tryd.func16, Tryd.ntmps16
    go_wp2
    go_ret2
    exact ⟨rfl, Below.refl _ w⟩
  case pos =>
    rw [prsX, if_neg (by omega)] at hp
    have hz : ((l.length : Int) % 2 != 0) = false := by rw [bne_eq_false_iff_eq]; omega
    go_enter Tryd.func16, Tryd.ntmps16
    go_wp2
    go_loopw [0] (fun v0 wr => ∃ (fuel : Nat) (l' : List Nat) (acc : List UInt8) (A' : Option Addr) (rc' : Nat), v0 = .slice A' l'.length rc' ∧ At w A' rc' l' ∧ bel 256 l' ∧ l'.length % 2 = 0 ∧ l'.length ≤ 1000 ∧ acc.length ≤ 4 * (1000 - l'.length) ∧ Lib.IsBuilderF 50 5 w.heap.size w.heap.size (Lib.byteCells acc) wr ∧ Below w.heap.size w wr ∧ prs fuel l' acc = some (s, e)) (fun v0 _ => lenV v0)
    case atStart =>
      exact ⟨l.length + 1, l, [], A, rc, rfl, hA, hb, by omega, hl, by simp, Lib.IsBuilderF.of (Lib.fresh_isBuilder 50 5 w), (Below.refl _ w).alloc (Nat.le_refl _) _, hp⟩
    case round =>
      obtain ⟨fuel, l', acc, A', rc', rfl, hA', hb', he', hl', hac, hI, hbw, hpr⟩ := hrel
      have htr := varOK_below htb hbw
      have hwr : w.heap.size ≤ wr.heap.size := hbw.size
      obtain ⟨f, rfl⟩ : ∃ f, fuel = f + 1 := by
        cases fuel with
        | zero => cases hpr
        | succ f => exact ⟨f, rfl⟩
      rw [prs] at hpr
      by_cases h0 : l'.length = 0
      case pos =>
        rw [if_pos h0] at hpr
        have hz0 : decide (((l'.length : Nat) : Int) > 0) = false := decide_eq_false (by omega)
        go_wp2_with (go_at_call 25; refine (stringOf w.heap.size w.heap.size acc _ hI hwr).mono ?_)
        rintro ex W1 ⟨rfl, hI1, hb1, hk1⟩
        have hbw1 := hbw.trans hb1
        have ht1 := varOK_below htb hbw1
        cases hn : h397 acc with
        | none => rw [finS, hn] at hpr; cases hpr
        | some n =>
          simp only [finS, hn] at hpr
          go_wp2_with (go_at_call 22; refine (count_calls ht1 hn).mono ?_)
          rintro ex W2 ⟨rfl, hb2⟩
          have hI2 := bf_below hI1 hb2
          have hbw2 : Below w.heap.size w W2 := hbw1.trans (hb2.mono hbw1.size)
          by_cases h64 : 64 < n
          · rw [if_pos h64] at hpr
            cases hpr
            go_wp2
            go_ret2
            exact ⟨rfl, hbw2⟩
          · rw [if_neg h64] at hpr
            simp only [Option.some.injEq, Prod.mk.injEq] at hpr
            obtain ⟨hs1, he1⟩ := hpr
            go_wp2_with (go_at_call 25; refine (stringOf w.heap.size w.heap.size acc _ hI2 hbw2.size).mono ?_)
            rintro ex W3 ⟨rfl, hI3, hb3, hk3⟩
            go_wp2
            go_ret2
            exact ⟨by rw [← hs1, ← he1]; rfl, hbw2.trans hb3⟩
      case neg =>
        rw [if_neg h0] at hpr
        have hz0 : decide (((l'.length : Nat) : Int) > 0) = true := decide_eq_true (by omega)
        have h2 : 2 ≤ l'.length := by omega
        obtain ⟨c, k, hs, hk, hkl, hc⟩ := sg_is hb' h2
        rw [hs] at hpr
        go_wp2_with (go_at_call 23; refine (sign_calls htr hb' h2 (hA'.below hbw) hs).mono ?_)
        intro ex W1 hx hb1
        subst hx
        have hbw1 : Below w.heap.size w W1 := hbw.trans (hb1.mono hwr)
        have hI1 := bf_below hI hb1
        by_cases hk0 : k = 0
        · subst hk0
          rw [if_pos (by rfl)] at hpr
          cases hpr
          go_wp2
          go_ret2
          exact ⟨rfl, hbw1⟩
        · rw [if_neg (by omega)] at hpr
          have hkz : ((k : Int) == 0) = false := beq_eq_false_iff_ne.2 (by omega)
          have hac2 : (Lib.byteCells acc).length + 4 ≤ 140737488355328 := by rw [Lib.byteCells_length]; omega
          obtain ⟨r, o, rfl⟩ : ∃ r o, A' = some ⟨r, o, none⟩ := by
            obtain ⟨n, hn⟩ : ∃ n, l'[0]? = some n := ⟨l'[0], List.getElem?_eq_getElem (by omega)⟩
            obtain ⟨r, o, h, _⟩ := hA'.2.2 0 n hn
            exact ⟨r, o, h⟩
          have hrc2 := hA'.1
          go_wp2_with (go_at_call 24; refine (writeRune w.heap.size w.heap.size _ (c : Int) (by omega) (by omega) _ hI1 hac2 hbw1.size).mono ?_)
          rintro ex W2 ⟨rfl, hI2, hb2, hk2⟩
          go_wp2
          go_roundw
          case rel =>
            have hl4 := Lib.runeCells_le (c : Int)
            rw [Lib.runeCells_length] at hl4
            have hdl : (l'.drop k).length = l'.length - k := List.length_drop
            refine ⟨f, l'.drop k, acc ++ Lib.encodeRune (c : Int), (if rc' = k then some ⟨r, o, none⟩ else some ⟨r, o + k, none⟩), rc' - k, by rw [hdl], ?_, bel_drop hb', by omega, by omega, by rw [List.length_append]; omega, ?_, hbw1.trans hb2, ?_⟩
            · by_cases he : rc' = k
              · rw [if_pos he]
                refine ⟨by omega, (fun h => by cases h), fun j n hn => ?_⟩
                rw [List.drop_of_length_le (by omega)] at hn
                simp at hn
              · rw [if_neg he]
                exact hA'.drop hkl
            · rw [Lib.byteCells_append, Lib.byteCells_encodeRune]
              exact Or.inr hI2
            · simpa using hpr
          case measure =>
            show l'.length - k < l'.length
            omega
end Go.Proofs.YtchoafdpckknmaaDoorE.U0
