/- The undisturbed run, walked. -/
import Derived.Test.YthigfakjiknhcaaDoorTyq
namespace Go.Proofs.YthigfakjiknhcaaDoorT
open Go Go.Proofs Go.RowKit
set_option linter.unusedSimpArgs false
set_option linter.unusedVariables false
theorem WW.below {n0 : Nat} {w w' : World} {b : Nat} {σ : St} (h : WW n0 w b σ) (hb : Below w.heap.size w w') : WW n0 w' b σ := by
  obtain ⟨kb, vs, vr, ps, pr, h⟩ := h
  exact ⟨kb, vs, vr, ps, pr, h.below hb⟩
theorem WW.ln {n0 : Nat} {w : World} {b : Nat} {σ : St} (h : WW n0 w b σ) : n0 ≤ w.heap.size := by
  obtain ⟨kb, vs, vr, ps, pr, h⟩ := h
  exact h.ln
def evsV (l : List Ev) : List Value := l.flatMap fun x => [.int .i64 x.kind, .int .i64 x.i, .int .i64 x.u, str x.h, str x.a, str x.b]
theorem evsV_at : ∀ (l : List Ev) (k : Nat) (x : Ev), l[k]? = some x → ∀ i, i < 6 → (evsV l)[k * 6 + i]? = [Value.int .i64 x.kind, .int .i64 x.i, .int .i64 x.u, str x.h, str x.a, str x.b][i]?
  | [], k, x, h => by simp at h
  | y :: l, 0, x, h => fun i hi => by
    simp at h
    subst h
    rw [show evsV (y :: l) = [Value.int .i64 y.kind, .int .i64 y.i, .int .i64 y.u, str y.h, str y.a, str y.b] ++ evsV l from rfl, Nat.zero_mul, Nat.zero_add, List.getElem?_append_left (by simpa using hi)]
  | y :: l, k + 1, x, h => fun i hi => by
    have ih := evsV_at l k x (by simpa using h) i hi
    rw [show evsV (y :: l) = [Value.int .i64 y.kind, .int .i64 y.i, .int .i64 y.u, str y.h, str y.a, str y.b] ++ evsV l from rfl, List.getElem?_append_right (by simp; omega)]
    rw [show (k + 1) * 6 + i - [Value.int .i64 y.kind, .int .i64 y.i, .int .i64 y.u, str y.h, str y.a, str y.b].length = k * 6 + i by simp; omega]
    exact ih
theorem endsV_at : ∀ (l : List EndP) (k : Nat) (e : EndP), l[k]? = some e → ∀ i, i < 4 → (endsV l)[k * 4 + i]? = (endV e)[i]?
  | [], k, e, h => by simp at h
  | y :: l, 0, e, h => fun i hi => by
    simp at h
    subst h
    rw [show endsV (y :: l) = endV y ++ endsV l from rfl, Nat.zero_mul, Nat.zero_add, List.getElem?_append_left (by simpa using hi)]
  | y :: l, k + 1, e, h => fun i hi => by
    have ih := endsV_at l k e (by simpa using h) i hi
    rw [show endsV (y :: l) = endV y ++ endsV l from rfl, List.getElem?_append_right (by simp; omega)]
    rw [show (k + 1) * 4 + i - (endV y).length = k * 4 + i by simp; omega]
    exact ih
theorem EndsAt.shape {n1 : Nat} {w : World} {v : Value} {es : List EndP} (h : EndsAt n1 w v es) : ∃ A cap, v = .slice A es.length cap := by
  rcases h.2 with ⟨rfl, h0⟩ | ⟨g, cap, cur, rfl, _⟩
  · exact ⟨none, 0, by rw [h0]⟩
  · exact ⟨_, _, rfl⟩
theorem EndsAt.cell {n1 : Nat} {w : World} {A : Option Addr} {n cap : Nat} {es : List EndP} (h : EndsAt n1 w (.slice A n cap) es) {k : Nat} {e : EndP} (he : es[k]? = some e) : ∃ g, A = some ⟨g, 0, none⟩ ∧ n1 ≤ g ∧ ∀ i, i < 4 → w.cell? ⟨g, k * 4 + i, none⟩ = (endV e)[i]? := by
  have hlt := (List.getElem?_eq_some_iff.1 he).1
  obtain ⟨g, cap', hv, hg, _⟩ := World.ownsRow.form h (by omega)
  cases hv
  refine ⟨g, rfl, hg, fun i hi => ?_⟩
  have hi2 : i < (endV e).length := by simpa using hi
  have := World.ownsRow.cells h (g := g) rfl (k * 4 + i) ((endV e)[i]'hi2) (by rw [endsV_at es k e he i hi]; exact List.getElem?_eq_getElem hi2)
  have hadd : (⟨g, 0, none⟩ : Addr).add (k * 4 + i) = ⟨g, k * 4 + i, none⟩ := by unfold Addr.add; split <;> simp_all
  rw [hadd] at this
  rw [this, List.getElem?_eq_getElem hi2]
set_option maxHeartbeats 8000000 in
set_option maxRecDepth 1000000 in
theorem symbols_any (w : World) : Calls Tryd.prog 5 #[] w fun e w' => e = .returned (.bool true) ∧ Below w.heap.size w w' := by
  have hnew := new_any w
  have hs1 := rseal_any [112, 48] [40, 99, 48, 32, 113, 48, 41] (by simp)
  have hs2 := rseal_any [112, 48] (40 :: (rT ++ [32, 111, 107, 41])) (by decide)
  have hbd := rbound_any rT [110, 48] [104] (by decide)
  have hr : twoT 91 93 [112, 48] [40, 99, 48, 32, 113, 48, 41] = rT := rfl
  have hc1 : ∀ w : World, (Op.stringOp .add ⟨[40].toArray⟩ ⟨rT.toArray⟩).run Tryd.prog w = .ok (str (40 :: rT)) w := cat_run [40] rT (by decide)
  have hc2 : ∀ w : World, (Op.stringOp .add ⟨(40 :: rT).toArray⟩ ⟨[32, 111, 107, 41].toArray⟩).run Tryd.prog w = .ok (str (40 :: (rT ++ [32, 111, 107, 41]))) w := cat_run (40 :: rT) [32, 111, 107, 41] (by decide)
  rw [hr] at hs1
  have hE : evS = [⟨1, 0, 0, [104], [], []⟩, ⟨2, 0, 0, [104], [], []⟩, ⟨3, 0, 0, [], [110, 48], [99, 48]⟩, ⟨5, 0, 0, [], [113, 48], rT⟩,
    ⟨4, 0, 0, [], twoT 91 93 [112, 48] (40 :: (rT ++ [32, 111, 107, 41])), []⟩, ⟨6, 0, 0, [], boundT rT [110, 48] [104], []⟩] := rfl
  have HE := Lib.hid hE
  have hev : ∀ x ∈ evS, x.ok := by
    intro x hx
    have : ∀ x ∈ evS, x.h.length ≤ 100000 ∧ x.a.length ≤ 100000 ∧ x.b.length ≤ 100000 := by decide
    obtain ⟨q1, q2, q3⟩ := this x hx
    exact ⟨q1, q2, q3⟩
  have hyes : ∀ k < 6, (doF (stS k) (evS.getD k ⟨0, 0, 0, [], [], []⟩)).1 = true := by
    intro k hk
    have := List.all_eq_true.1 sym_yes k (by simpa using hk)
    exact this
  clear hr hE
  generalize twoT 91 93 [112, 48] (40 :: (rT ++ [32, 111, 107, 41])) = A1 at *
  generalize boundT rT [110, 48] [104] = A2 at *
  generalize 40 :: (rT ++ [32, 111, 107, 41]) = A3 at *
  generalize 40 :: rT = A4 at *
  generalize rT = R at *
  go_enter Tryd.func5, Tryd.ntmps5
  go_wp2_with (first
    | (go_at_call 4; refine Calls.mono hnew (fun e wa hp => ?_); obtain ⟨b, rfl, hW, b1⟩ := hp)
    | (go_at_call 14; refine Calls.mono (rpw_any _) (fun e wb hp => ?_); obtain ⟨rfl, b2⟩ := hp)
    | (go_at_call_of 15 (Value.string ⟨#[40, 99, 48, 32, 113, 48, 41]⟩); refine Calls.mono (hs1 _) (fun e wb hp => ?_); obtain ⟨rfl, rfl⟩ := hp)
    | (go_at_call_of 15 (str A3); refine Calls.mono (hs2 _) (fun e wb hp => ?_); obtain ⟨rfl, rfl⟩ := hp)
    | (go_at_call 16; refine Calls.mono (hbd _) (fun e w3 hp => ?_); obtain ⟨rfl, b3⟩ := hp)
    | fail)
  have hW3 := (hW.below b2).below b3
  have B3 := (b1.trans (b2.mono b1.size)).trans (b3.mono (hW.below b2).ln)
  obtain ⟨CS, hCS⟩ : ∃ CS : Array Value, CS = (evsV evS).toArray := ⟨_, rfl⟩
  have hW4 := fun o => hW3.below (al_below w3 o)
  have B4 := fun o => B3.trans ((al_below w3 o).mono hW3.ln)
  have hrow : ∀ cs, (w3.alloc (.cells cs 29)).heap[w3.heap.size]? = some (.cells cs 29 (0, 0)) := fun cs => new_blk w3 cs 29
  have hcs : CS = #[.int .i64 1, .int .i64 0, .int .i64 0, .string ⟨#[104]⟩, .string ⟨#[]⟩, .string ⟨#[]⟩, .int .i64 2, .int .i64 0, .int .i64 0, .string ⟨#[104]⟩, .string ⟨#[]⟩, .string ⟨#[]⟩, .int .i64 3, .int .i64 0, .int .i64 0, .string ⟨#[]⟩, .string ⟨#[110, 48]⟩, .string ⟨#[99, 48]⟩,
      .int .i64 5, .int .i64 0, .int .i64 0, .string ⟨#[]⟩, .string ⟨#[113, 48]⟩, str R, .int .i64 4, .int .i64 0, .int .i64 0, .string ⟨#[]⟩, str A1, .string ⟨#[]⟩, .int .i64 6, .int .i64 0, .int .i64 0, .string ⟨#[]⟩, str A2, .string ⟨#[]⟩] := by
    rw [hCS, HE.out]
    rfl
  rw [← hcs]
  replace hW4 := hW4 (.cells CS 29)
  replace B4 := B4 (.cells CS 29)
  replace hrow := hrow CS
  clear hcs hs1 hs2 hbd hc1 hc2
  generalize w3.alloc (.cells CS 29) = w4 at *
  generalize w3.heap.size = L at *
  go_loopw [28] (fun vi wr => ∃ k : Nat, vi = .int .i64 k ∧ k ≤ 6 ∧ WW w.heap.size wr b (stS k) ∧ Below w.heap.size w wr ∧ wr.heap[L]? = some (.cells CS 29 (0, 0))) (fun vi _ => 6 - (intOf vi).toNat)
  case atStart => exact ⟨0, rfl, by omega, hW4, B4, hrow⟩
  case round =>
    obtain ⟨k, rfl, hk, hWr, hBr, hrr⟩ := hrel
    by_cases hlt : k < 6
    · have hk1 : ((k : Nat) : Int) < 6 := by omega
      have hy := hyes k hlt
      have hL6 : evS.length = 6 := by rw [HE.out]; rfl
      have hgx := List.getElem?_eq_getElem (show k < evS.length by omega)
      have hgd : evS.getD k ⟨0, 0, 0, [], [], []⟩ = evS[k]'(by omega) := by rw [List.getD_eq_getElem?_getD, hgx]; rfl
      have hxok := hev _ (List.mem_of_getElem? hgx)
      have hst : (doF (stS k) (evS[k]'(by omega))).2 = stS (k + 1) := by rw [← hgd]; rfl
      rw [hgd] at hy
      have hat := evsV_at evS k _ hgx
      generalize evS[k]'_ = x at *
      have hcell : ∀ i, i < 6 → wr.cell? ⟨L, k * 6 + i, none⟩ = [Value.int .i64 x.kind, .int .i64 x.i, .int .i64 x.u, str x.h, str x.a, str x.b][i]? := fun i hi => by
        rw [cell_at hrr, hCS, List.getElem?_toArray]
        exact hat i hi
      have g0 := hcell 0 (by omega)
      have g1 := hcell 1 (by omega)
      have g2 := hcell 2 (by omega)
      have g3 := hcell 3 (by omega)
      have g4 := hcell 4 (by omega)
      have g5 := hcell 5 (by omega)
      simp only [Nat.add_zero, List.getElem?_cons_succ, List.getElem?_cons_zero] at g0 g1 g2 g3 g4 g5
      have HX := Lib.hid hst
      have HY := Lib.hid hy
      clear hcell hat hst hy hgx hgd hL6
      obtain ⟨kd, xi, xu, xh, xa, xb⟩ := x
      simp only at g0 g1 g2 g3 g4 g5
      have hdo := fun w' (hW : WW w.heap.size w' b (stS k)) => do_any hW ⟨kd, xi, xu, xh, xa, xb⟩ hxok (stS_ok k)
      generalize doF (stS k) ⟨kd, xi, xu, xh, xa, xb⟩ = O at *
      obtain ⟨OB, OS⟩ := O
      have hOB := HY.out
      have hOS := HX.out
      simp only at hOB hOS
      subst hOB
      have hWa := fun o => hWr.below (al_below wr o)
      have hBa := fun o => hBr.trans ((al_below wr o).mono hWr.ln)
      have hra := fun o => (Below.heap_alloc wr o L (Array.getElem?_eq_some_iff.1 hrr).1).trans hrr
      go_wp2_with (first | (go_at_call 6; refine Calls.mono (hdo _ (hWa _)) (fun e w5 hp => ?_); obtain ⟨rfl, hx5, b5⟩ := hp) | fail)
      go_roundw
      case rel => exact ⟨k + 1, by go_num, by omega, by rw [← hOS]; exact hx5, (hBa _).trans b5.b, b5.q _ _ _ (hra _)⟩
      case measure => simp [intOf]; omega
    · have hk6 : k = 6 := by omega
      have hk1 : ¬ ((k : Nat) : Int) < 6 := by omega
      have hse := sym_end
      have hok := stS_ok k
      rw [← hk6] at hse
      obtain ⟨e, he, hest⟩ : ∃ e, (stS k).s = [e] ∧ e.st = 2 := by
        cases hl : (stS k).s with
        | nil => rw [hl] at hse; cases hse
        | cons e t =>
          rw [hl] at hse
          simp only [List.map_cons, List.cons.injEq, List.map_eq_nil_iff] at hse
          obtain ⟨q1, q2⟩ := hse
          subst q2
          exact ⟨e, rfl, q1⟩
      have h8 := fun w' (hW : WW w.heap.size w' b (stS k)) => sess_any hW hok
      rw [he] at h8
      have H6 := Lib.hid hk6
      have HS := Lib.hid hest
      clear hk6 hse he hest hlt
      go_wp2_with (first | (go_at_call 8; refine Calls.mono (h8 _ hWr) (fun e5 w5 hp => ?_); obtain ⟨⟨v5, rfl, hv5⟩, b5⟩ := hp; obtain ⟨A5, cap5, rfl⟩ := hv5.shape; have hW5 := hWr.below b5; have B5 := hBr.trans (b5.mono hWr.ln); clear hWr) | fail)
      go_wp2_with (first | (go_at_call 8; refine Calls.mono (h8 _ hW5) (fun e6 w6 hp => ?_); obtain ⟨⟨v6, rfl, hv6⟩, b6⟩ := hp; obtain ⟨A6, cap6, rfl⟩ := hv6.shape; have B6 := B5.trans (b6.mono hW5.ln); obtain ⟨g6, rfl, _, hc6⟩ := hv6.cell (k := 0) (e := e) rfl; have m0 := hc6 0 (by omega); simp only [Nat.zero_mul, Nat.add_zero, List.getElem?_cons_zero] at m0; rw [HS.out] at m0) | fail)
      go_ret
      exact ⟨rfl, B6⟩
end Go.Proofs.YthigfakjiknhcaaDoorT
