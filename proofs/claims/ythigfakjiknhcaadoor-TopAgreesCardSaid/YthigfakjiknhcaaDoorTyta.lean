/- The law's function, walked: a longer row. -/
import Derived.Test.YthigfakjiknhcaaDoorTysc
namespace Go.Proofs.YthigfakjiknhcaaDoorT
open Go Go.Proofs Go.RowKit
set_option linter.unusedSimpArgs false
set_option linter.unusedVariables false
set_option maxHeartbeats 16000000 in
set_option maxRecDepth 1000000 in
theorem top_big {w : World} {a : Addr} {N cap : Nat} {evs : List Ev} (hv : EvArg w (some a) N cap evs) (h40 : 40 < N) : Calls Tryd.prog 3 #[.slice (some a) N cap] w fun e w' => e = .returned (.bool true) ∧ Below w.heap.size w w' := by
  have hnew := new_any w
  have hnc := hv.nc
  have hMN : 40 ≤ N := by omega
  have h40i : ¬ ((N : Nat) : Int) ≤ 40 := by omega
  have h40c : 40 ≤ cap := by omega
  have h40d : (40 : Int) ≤ ((cap : Nat) : Int) := by omega
  go_enter Tryd.func3, Tryd.ntmps3
  go_wp2_with (first
    | (go_at_call 4; refine Calls.mono hnew (fun e wa hp => ?_); obtain ⟨b, rfl, hW, b1⟩ := hp)
    | fail)
  go_loopw [19] (fun vi wr => ∃ k : Nat, vi = .int .i64 k ∧ k ≤ 40 ∧ ∃ σ, WW w.heap.size wr b σ ∧ Inv σ ∧ Below w.heap.size w wr) (fun vi _ => 40 - (intOf vi).toNat)
  case atStart => exact ⟨0, rfl, Nat.zero_le _, σ0, hW, σ0_inv, b1⟩
  case round =>
    obtain ⟨k, rfl, hk, σ, hWr, hI, hBr⟩ := hrel
    by_cases hlt : k < 40
    · have hgx := List.getElem?_eq_getElem (show k < evs.length by have := hv.len; omega)
      generalize evs[k]'_ = x at hgx
      obtain ⟨a', ha, hab, hcell⟩ := hv.cell k x hgx
      cases ha
      have hcell2 : ∀ i, i < 6 → wr.cell? (a.add (k * 6 + i)) = [Value.int .i64 x.kind, .int .i64 x.i, .int .i64 x.u, str x.h, str x.a, str x.b][i]? := fun i hi => by
        rw [← hcell i hi]
        exact hBr.cell (p := a.add (k * 6 + i)) (by unfold Addr.add; split <;> exact hab)
      have hform : ∀ i, 0 < i → a.add (k * 6 + i) = ⟨(a.add (k * 6)).block, (a.add (k * 6)).off + i, none⟩ := fun i hi => by
        rw [← add_add']
        unfold Addr.add
        rw [if_neg (by omega)]
      have g0 := hcell2 0 (by omega)
      have g1 := hcell2 1 (by omega)
      have g2 := hcell2 2 (by omega)
      have g3 := hcell2 3 (by omega)
      have g4 := hcell2 4 (by omega)
      have g5 := hcell2 5 (by omega)
      rw [hform _ (by omega)] at g1 g2 g3 g4 g5
      simp only [Nat.add_zero, List.getElem?_cons_succ, List.getElem?_cons_zero] at g0 g1 g2 g3 g4 g5
      have hk1 : ((k : Nat) : Int) < 40 := by omega
      clear hcell hcell2 hgx hform
      obtain ⟨kd, xi, xu, xh, xa, xb⟩ := x
      simp only at g0 g1 g2 g3 g4 g5
      have hWa := fun o => hWr.below (al_below wr o)
      have hBa := fun o => hBr.trans ((al_below wr o).mono hWr.ln)
      have hsym := fun o => symbols_any (wr.alloc o)
      have hdo := fun (hx : (Ev.mk kd xi xu xh xa xb).ok) o => do_any (hWa o) (Ev.mk kd xi xu xh xa xb) hx hI.ok
      have hinv := doF_inv hI (Ev.mk kd xi xu xh xa xb)
      generalize doF σ (Ev.mk kd xi xu xh xa xb) = O at *
      have HI := Lib.hid hI
      have HV := Lib.hid hv
      have HO := Lib.hid hinv
      clear hI hinv hv
      by_cases c1 : 700 < xa.length
      · have c1i : (700 : Int) < ((xa.length : Nat) : Int) := by omega
        clear hdo
        go_wp2_with (first | (go_at_call 5; refine Calls.mono (hsym _) (fun e w5 hp => ?_); obtain ⟨rfl, b5⟩ := hp) | fail)
        go_ret
        exact ⟨rfl, (hBa _).trans (b5.mono (hWa _).ln)⟩
      by_cases c2 : 700 < xb.length
      · have c1i : ¬ (700 : Int) < ((xa.length : Nat) : Int) := by omega
        have c2i : (700 : Int) < ((xb.length : Nat) : Int) := by omega
        clear hdo
        go_wp2_with (first | (go_at_call 5; refine Calls.mono (hsym _) (fun e w5 hp => ?_); obtain ⟨rfl, b5⟩ := hp) | fail)
        go_ret
        exact ⟨rfl, (hBa _).trans (b5.mono (hWa _).ln)⟩
      by_cases c3 : 100 < xh.length
      · have c1i : ¬ (700 : Int) < ((xa.length : Nat) : Int) := by omega
        have c2i : ¬ (700 : Int) < ((xb.length : Nat) : Int) := by omega
        have c3i : (100 : Int) < ((xh.length : Nat) : Int) := by omega
        clear hdo
        go_wp2_with (first | (go_at_call 5; refine Calls.mono (hsym _) (fun e w5 hp => ?_); obtain ⟨rfl, b5⟩ := hp) | fail)
        go_ret
        exact ⟨rfl, (hBa _).trans (b5.mono (hWa _).ln)⟩
      have c1i : ¬ (700 : Int) < ((xa.length : Nat) : Int) := by omega
      have c2i : ¬ (700 : Int) < ((xb.length : Nat) : Int) := by omega
      have c3i : ¬ (100 : Int) < ((xh.length : Nat) : Int) := by omega
      have hd2 := hdo ⟨by show xh.length ≤ 100000; omega, by show xa.length ≤ 100000; omega, by show xb.length ≤ 100000; omega⟩
      clear hdo
      go_wp2_with (first | (go_at_call 6; refine Calls.mono (hd2 _) (fun e w5 hp => ?_); obtain ⟨rfl, hx5, b5⟩ := hp) | fail)
      go_roundw
      case rel => exact ⟨k + 1, by go_num, by omega, O.2, hx5, HO.out, (hBa _).trans b5.b⟩
      case measure => simp [intOf]; omega
    · have hk1 : ¬ ((k : Nat) : Int) < 40 := by omega
      have hok := hI.ok
      have h7 := fun w' (hW : WW w.heap.size w' b σ) => runs7_any hW hok
      have h8 := fun w' (hW : WW w.heap.size w' b σ) => sess_any hW hok
      have HI := Lib.hid hI
      have HV := Lib.hid hv
      clear hI hv
      have hrl := hok.lr
      have HRL := Lib.hid hrl
      clear hrl
      have hmk := fun w' => run_make_row' (P := Tryd.prog) 30 4 (.bool false) 1 Tryd.underlying30 info4 rfl .i64 .i64 σ.r.length (by have := HRL.out; omega) (by have := HRL.out; omega) w'
      go_wp2_with (first
        | (go_at_call 7; refine Calls.mono (h7 _ hWr) (fun e w7 hp => ?_); obtain ⟨⟨v7, rfl, hv7⟩, b7⟩ := hp; obtain ⟨A7, cap7, rfl⟩ := hv7.shape; have hW7 := hWr.below b7; have B7 := hBr.trans (b7.mono hWr.ln); have hU7 : ∀ cs, (w7.alloc (.cells cs 4)).heap[w7.heap.size]? = some (.cells cs 4 (0, 0)) := fun cs => new_blk w7 cs 4; have hW7a := fun o => hW7.below (al_below w7 o); have B7a := fun o => B7.trans ((al_below w7 o).mono hW7.ln); clear hWr)
        | (go_at_call 8; refine Calls.mono (h8 _ (hW7a _)) (fun e w8 hp => ?_); obtain ⟨⟨v8, rfl, hv8⟩, b8⟩ := hp; obtain ⟨A8, cap8, rfl⟩ := hv8.shape; have hW8 := (hW7a _).below b8; have B8 := (B7a _).trans (b8.mono (hW7a _).ln); have hU8 := UBk.below (bs := List.replicate σ.r.length false) (by unfold UBk; rw [hU7, made_false]) b8)
        | fail)
      have hU0 : UR σ 0 (List.replicate σ.r.length false) := ⟨by simp, fun i hi => by
        rw [List.getElem?_replicate] at hi
        split at hi <;> cases hi⟩
      have hUn := B7.size
      generalize w7.heap.size = U at *
      generalize w8.heap.size = n8 at *
      clear hU7 hW7a B7a hmk
      have hv8' : ∃ n1, EndsAt n1 w8 (.slice A8 σ.s.length cap8) σ.s := ⟨_, hv8⟩
      clear hv8
      go_loopw [51] (fun vi wq => ∃ j : Nat, vi = .int .i64 j ∧ j ≤ σ.s.length ∧ WW w.heap.size wq b σ ∧ (∃ n1, EndsAt n1 wq (.slice A8 σ.s.length cap8) σ.s) ∧ (∃ bs, UBk wq U bs ∧ UR σ j bs) ∧ Below w.heap.size w wq) (fun vi _ => σ.s.length - (intOf vi).toNat)
      case atStart => exact ⟨0, rfl, Nat.zero_le _, hW8, hv8', ⟨_, hU8, hU0⟩, B8⟩
      case round =>
        obtain ⟨j, rfl, hj, hWq, ⟨n1, hEq⟩, ⟨bs, hUq, hR⟩, hBq⟩ := hrel
        clear hW8 hv8' hU8 hU0 B8
        have hsl : σ.s.length ≤ 6 := hok.ls
        by_cases hjl : j < σ.s.length
        · have hgs := List.getElem?_eq_getElem hjl
          have hst4 := hok.s _ (List.mem_of_getElem? hgs)
          generalize σ.s[j]'_ = s at hgs hst4
          have hu4 := hst4.u
          clear hst4
          obtain ⟨g8, rfl, _, hc8⟩ := hEq.cell hgs
          have d0 := hc8 0 (by omega)
          have d1 := hc8 1 (by omega)
          have d2 := hc8 2 (by omega)
          have d3 := hc8 3 (by omega)
          simp only [Nat.add_zero, List.getElem?_cons_succ, List.getElem?_cons_zero] at d0 d1 d2 d3
          clear hc8
          have hj1 : ((j : Nat) : Int) < ((σ.s.length : Nat) : Int) := by omega
          have hWa := fun o => hWq.below (al_below wr o)
          have hEa := fun o => hEq.below (al_below wr o)
          have hUa := fun o => hUq.below (al_below wr o)
          have hBa := fun o => hBq.trans ((al_below wr o).mono hWq.ln)
          by_cases h2 : s.st = 2
          · have h2b : (((s.st : Nat) : Int) != 2) = false := by rw [h2]; rfl
            have H2 := Lib.hid h2
            clear h2
            have hlk := fun o => leaked_any (hWa o) s.u hu4
            cases hL : σ.lk s.u with
            | true =>
              rw [hL] at hlk
              clear h7 h8
              go_wp2_with (first | (go_at_call 9; refine Calls.mono (hlk _) (fun e w5 hp => ?_); obtain ⟨rfl, rfl⟩ := hp) | fail)
              go_roundw
              case rel => exact ⟨j + 1, by go_num, by omega, hWa _, ⟨_, hEa _⟩, ⟨bs, hUa _, hR.mono (by omega)⟩, hBa _⟩
              case measure => simp [intOf]; omega
            | false =>
              rw [hL] at hlk
              have HL := Lib.hid hL
              clear hL h8
              have hcp : ∀ cs, (wr.alloc (.cells cs 34)).heap[wr.heap.size]? = some (.cells cs 34 (0, 0)) := fun cs => new_blk wr cs 34
              go_wp2_with (first
                | (go_at_call 9; refine Calls.mono (hlk _) (fun e w5 hp => ?_); obtain ⟨rfl, rfl⟩ := hp)
                | (go_at_call 7; refine Calls.mono (h7 _ (hWa _)) (fun e w7 hp => ?_); obtain ⟨⟨v6, rfl, hv6⟩, b6⟩ := hp; obtain ⟨A6, cap6, rfl⟩ := hv6.shape; have hW6 := (hWa _).below b6; have hE6 := (hEa _).below b6; have hU6 := (hUa _).below b6; have B6 := (hBa _).trans (b6.mono (hWa _).ln); have hC6 := CP.below (c := wr.heap.size) (e := s) (hcp _) b6)
                | fail)
              have hv6' : ∃ n1, EndsAt n1 w7 (.slice A6 σ.r.length cap6) σ.r := ⟨_, hv6⟩
              clear hv6 h7
              generalize wr.heap.size = C at *
              clear hcp hlk d0 d1 d2 d3
              go_loopw [9, 67] (fun vm vi wq => ∃ (m : Bool) (i : Nat), vm = .bool m ∧ vi = .int .i64 i ∧ i ≤ σ.r.length ∧ WW w.heap.size wq b σ ∧ EndsAt n1 wq (.slice (some ⟨g8, 0, none⟩) σ.s.length cap8) σ.s ∧ (∃ n1, EndsAt n1 wq (.slice A6 σ.r.length cap6) σ.r) ∧ CP wq C s ∧
                  (∃ bs, UBk wq U bs ∧ bs.length = σ.r.length ∧ (m = false → UR σ j bs ∧ ∀ i' < i, ¬ Qm σ s i') ∧ (m = true → UR σ (j + 1) bs)) ∧ Below w.heap.size w wq) (fun _ vi _ => σ.r.length - (intOf vi).toNat)
              case atStart => exact ⟨false, 0, rfl, rfl, Nat.zero_le _, hW6, hE6, hv6', hC6, ⟨bs, hU6, hR.1, fun _ => ⟨hR, fun i' hi' => absurd hi' (by omega)⟩, fun h => (by cases h)⟩, B6⟩
              case round =>
                obtain ⟨m, i, rfl, rfl, hi, hWs, hEs, ⟨n2, hRs⟩, hCs, ⟨bs', hUs, hbl, hm0, hm1⟩, hBs⟩ := hrel
                clear hW6 hE6 hv6' hC6 hU6 B6
                have hrl6 : σ.r.length ≤ 6 := HRL.out
                by_cases hil : i < σ.r.length
                · have hgr := List.getElem?_eq_getElem hil
                  generalize σ.r[i]'_ = r at hgr
                  obtain ⟨g6, rfl, _, hc6⟩ := hRs.cell hgr
                  have d0 := hc6 0 (by omega)
                  have d1 := hc6 1 (by omega)
                  have d2 := hc6 2 (by omega)
                  have d3 := hc6 3 (by omega)
                  simp only [Nat.add_zero, List.getElem?_cons_succ, List.getElem?_cons_zero] at d0 d1 d2 d3
                  clear hc6
                  have hi1 : ((i : Nat) : Int) < ((σ.r.length : Nat) : Int) := by omega
                  have hi0 : (0 : Int) ≤ ((i : Nat) : Int) := by omega
                  have hWb := fun o => hWs.below (al_below wr o)
                  have hEb := fun o => hEs.below (al_below wr o)
                  have hRb := fun o => hRs.below (al_below wr o)
                  have hCb := fun o => hCs.below (al_below wr o)
                  have hUb := fun o => hUs.below (al_below wr o)
                  have hBb := fun o => hBs.trans ((al_below wr o).mono hWs.ln)
                  cases m with
                  | true =>
                    go_wp2
                    go_roundw
                    case rel => exact ⟨true, i + 1, rfl, by go_num, by omega, hWb _, hEb _, ⟨_, hRb _⟩, hCb _, ⟨bs', hUb _, hbl, fun h => (by cases h), fun _ => hm1 rfl⟩, hBb _⟩
                    case measure => simp [intOf]; omega
                  | false =>
                    have hgb := List.getElem?_eq_getElem (show i < bs'.length by omega)
                    generalize bs'[i]'_ = x at hgb
                    have cU := fun o => (hUb o).cell i
                    have fU := fun o => (hUb o).free i
                    rw [hgb] at cU
                    simp only [Option.map_some] at cU
                    have cC1 := fun o => (hCb o).cells.2.1
                    have cC2 := fun o => (hCb o).cells.2.2.1
                    have cC3 := fun o => (hCb o).cells.2.2.2
                    have M0 := Lib.hid (hm0 rfl)
                    have HB := Lib.hid hgb
                    have HG := Lib.hid hgr
                    have HS := Lib.hid hgs
                    clear hm0 hm1 hgb hgr hgs
                    cases x with
                    | true =>
                      go_wp2
                      go_roundw
                      case rel =>
                        refine ⟨false, i + 1, rfl, by go_num, by omega, hWb _, hEb _, ⟨_, hRb _⟩, hCb _, ⟨bs', hUb _, hbl, fun _ => ⟨M0.out.1, fun i' hi' => ?_⟩, fun h => (by cases h)⟩, hBb _⟩
                        rcases Nat.lt_succ_iff_lt_or_eq.1 hi' with hi' | rfl
                        · exact M0.out.2 i' hi'
                        · exact M0.out.1.not HI.out HS.out HB.out
                      case measure => simp [intOf]; omega
                    | false =>
                      by_cases e2 : r.st = 2
                      · have e2b : (((r.st : Nat) : Int) == 2) = true := by rw [e2]; rfl
                        have E2 := Lib.hid e2
                        clear e2
                        by_cases eu : r.u = s.u
                        · have eub : (((r.u : Nat) : Int) == ((s.u : Nat) : Int)) = true := by rw [eu]; simp
                          have EU := Lib.hid eu
                          clear eu
                          by_cases eh : txO r.h = txO s.h
                          · have ehb : (txO r.h == txO s.h) = true := by rw [eh]; simp
                            have EH := Lib.hid eh
                            clear eh
                            by_cases en : txO r.n = txO s.n
                            · have enb : (txO r.n == txO s.n) = true := by rw [en]; simp
                              have EN := Lib.hid en
                              clear en
                              go_wp2
                              go_roundw
                              case rel =>
                                have kU := fun o => set_kb (wr.alloc o) U i (.bool true)
                                exact ⟨true, i + 1, rfl, by go_num, by omega, (hWb _).kbU (hUb _) (kU _), (hEb _).kbU (hUb _) (kU _), ⟨_, (hRb _).kbU (hUb _) (kU _)⟩, (hCb _).kbU (hUb _) (kU _), ⟨bs'.set i true, (hUb _).set i, by simpa using hbl, fun h => (by cases h), fun _ => M0.out.1.set HS.out HG.out EN.out⟩, (kU _).to_below (hBb _) hUn (hBb _).size⟩
                              case measure => simp [intOf]; omega
                            · have enb : (txO r.n == txO s.n) = false := by simpa using en
                              have EN := Lib.hid en
                              clear en
                              go_wp2
                              go_roundw
                              case rel =>
                                refine ⟨false, i + 1, rfl, by go_num, by omega, hWb _, hEb _, ⟨_, hRb _⟩, hCb _, ⟨bs', hUb _, hbl, fun _ => ⟨M0.out.1, fun i' hi' => ?_⟩, fun h => (by cases h)⟩, hBb _⟩
                                rcases Nat.lt_succ_iff_lt_or_eq.1 hi' with hi' | rfl
                                · exact M0.out.2 i' hi'
                                · exact fun ⟨r', z1, z2, z3, z4, z5⟩ => EN.out (by rw [HG.out] at z1; cases z1; exact z5)
                              case measure => simp [intOf]; omega
                          · have ehb : (txO r.h == txO s.h) = false := by simpa using eh
                            have EH := Lib.hid eh
                            clear eh
                            go_wp2
                            go_roundw
                            case rel =>
                              refine ⟨false, i + 1, rfl, by go_num, by omega, hWb _, hEb _, ⟨_, hRb _⟩, hCb _, ⟨bs', hUb _, hbl, fun _ => ⟨M0.out.1, fun i' hi' => ?_⟩, fun h => (by cases h)⟩, hBb _⟩
                              rcases Nat.lt_succ_iff_lt_or_eq.1 hi' with hi' | rfl
                              · exact M0.out.2 i' hi'
                              · exact fun ⟨r', z1, z2, z3, z4, z5⟩ => EH.out (by rw [HG.out] at z1; cases z1; exact z4)
                            case measure => simp [intOf]; omega
                        · have eub : (((r.u : Nat) : Int) == ((s.u : Nat) : Int)) = false := by rw [beq_eq_false_iff_ne]; omega
                          have EU := Lib.hid eu
                          clear eu
                          go_wp2
                          go_roundw
                          case rel =>
                            refine ⟨false, i + 1, rfl, by go_num, by omega, hWb _, hEb _, ⟨_, hRb _⟩, hCb _, ⟨bs', hUb _, hbl, fun _ => ⟨M0.out.1, fun i' hi' => ?_⟩, fun h => (by cases h)⟩, hBb _⟩
                            rcases Nat.lt_succ_iff_lt_or_eq.1 hi' with hi' | rfl
                            · exact M0.out.2 i' hi'
                            · exact fun ⟨r', z1, z2, z3, z4, z5⟩ => EU.out (by rw [HG.out] at z1; cases z1; exact z3)
                          case measure => simp [intOf]; omega
                      · have e2b : (((r.st : Nat) : Int) == 2) = false := by rw [beq_eq_false_iff_ne]; omega
                        have E2 := Lib.hid e2
                        clear e2
                        go_wp2
                        go_roundw
                        case rel =>
                          refine ⟨false, i + 1, rfl, by go_num, by omega, hWb _, hEb _, ⟨_, hRb _⟩, hCb _, ⟨bs', hUb _, hbl, fun _ => ⟨M0.out.1, fun i' hi' => ?_⟩, fun h => (by cases h)⟩, hBb _⟩
                          rcases Nat.lt_succ_iff_lt_or_eq.1 hi' with hi' | rfl
                          · exact M0.out.2 i' hi'
                          · exact fun ⟨r', z1, z2, z3, z4, z5⟩ => E2.out (by rw [HG.out] at z1; cases z1; exact z2)
                        case measure => simp [intOf]; omega
                · have hi1 : ¬ ((i : Nat) : Int) < ((σ.r.length : Nat) : Int) := by omega
                  cases m with
                  | false =>
                    obtain ⟨i', q1, q2⟩ := met_run HI.out hgs H2.out HL.out
                    exact absurd q2 ((hm0 rfl).2 i' (by omega))
                  | true =>
                    go_wp2
                    go_roundw
                    case rel => exact ⟨j + 1, by go_num, by omega, hWs, ⟨_, hEs⟩, ⟨bs', hUs, hm1 rfl⟩, hBs⟩
                    case measure => simp [intOf]; omega
          · have h2b : (((s.st : Nat) : Int) != 2) = true := by rw [bne_iff_ne]; omega
            clear h7 h8
            go_wp2
            go_roundw
            case rel => exact ⟨j + 1, by go_num, by omega, hWa _, ⟨_, hEa _⟩, ⟨bs, hUa _, hR.mono (by omega)⟩, hBa _⟩
            case measure => simp [intOf]; omega
        · have hj1 : ¬ ((j : Nat) : Int) < ((σ.s.length : Nat) : Int) := by omega
          have hsy := symbols_any wr
          clear h7 h8
          go_wp2_with (first | (go_at_call 5; refine Calls.mono hsy (fun e w5 hp => ?_); obtain ⟨rfl, b5⟩ := hp) | fail)
          go_ret
          exact ⟨rfl, hBq.trans (b5.mono hWq.ln)⟩
end Go.Proofs.YthigfakjiknhcaaDoorT
