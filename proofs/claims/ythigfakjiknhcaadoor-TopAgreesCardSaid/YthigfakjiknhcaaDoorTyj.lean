/- The ends, told. -/
import Derived.Test.YthigfakjiknhcaaDoorTyi
namespace Go.Proofs.YthigfakjiknhcaaDoorT
open Go Go.Proofs Go.RowKit
set_option linter.unusedSimpArgs false
set_option linter.unusedVariables false
theorem info34 : (Tryd.prog.info? 34).map (fun i => (i.zero, i.size, i.bytes)) = some (some (.agg #[.int .i64 0, .int .i64 0, .string ⟨#[]⟩, .string ⟨#[]⟩]), 4, 48) := by kernel_rfl
def txO : Option Tm → List UInt8
  | none => []
  | some t => t.text
set_option maxHeartbeats 8000000 in
set_option maxRecDepth 1000000 in
theorem textO_any {w : World} {t : Option Tm} {v : Value} (h : RO w t v) (hg : goodO t) : Calls Tryd.prog 45 #[v] w fun e w' => e = .returned (str (txO t)) ∧ Below w.heap.size w w' := by
  cases t with
  | none =>
    have hv : v = .nilIface := h
    subst hv
    go_enter Tryd.func45, Tryd.ntmps45
    go_wp2
    go_ret
    exact ⟨rfl, Below.refl _ _⟩
  | some t =>
    exact (text_any t w v (hg t rfl).len h).mono fun e w' hp => ⟨hp.1, by obtain ⟨n, rfl⟩ := hp.2; exact drew_below w n⟩
/-- an end as it is told -/
abbrev endV (e : EndP) : List Value := [.int .i64 (e.st : Nat), .int .i64 (e.u : Nat), str (txO e.h), str (txO e.n)]
def endsV (es : List EndP) : List Value := es.flatMap endV
theorem endsV_snoc (es : List EndP) (k : Nat) {e : EndP} (h : es[k]? = some e) : endsV (es.take (k + 1)) = endsV (es.take k) ++ endV e := by
  have hlt := (List.getElem?_eq_some_iff.1 h).1
  have hge : es[k] = e := (List.getElem?_eq_some_iff.1 h).2
  rw [List.take_add_one, h]
  simp [endsV]
theorem grown_below {n : Nat} {w w' : World} {row : Option Nat} (h : w.grownBy w' row) (hr : ∀ g, row = some g → n ≤ g) (hn : n ≤ w.heap.size) : Below n w w' :=
  ⟨h.os, h.tape, h.output, h.size, fun k hk => h.block k (by omega) fun e => by have := hr k e.symm; omega⟩
theorem own_below {n0 e s : Nat} {w w' : World} {v : Value} {n : Nat} {xs : List Value} (h : w.ownsRow n0 e s v n xs) (hb : Below w.heap.size w w') : w'.ownsRow n0 e s v n xs := World.ownsRow.kept h (grown_of_below hb) (by cases v.ownBlock <;> simp)
theorem own_base {n0 e s : Nat} {w : World} {v : Value} {n : Nat} {xs : List Value} (h : w.ownsRow n0 e s v n xs) : ∀ g, v.ownBlock = some g → n0 ≤ g := fun g hg => (World.ownsRow.lt h g hg).1
set_option maxHeartbeats 8000000 in
set_option maxRecDepth 1000000 in
theorem ends_any {n0 : Nat} {w : World} {v : Value} {ps : List Nat} {es : List EndP} (h : PS n0 w v ps) (he : EL w ps es) (hok : ∀ e ∈ es, e.ok) (hlen : es.length ≤ 6) :
    Calls Tryd.prog 25 #[v] w fun e w' => (∃ v', e = .returned v' ∧ w'.ownsRow w.heap.size 34 4 v' es.length (endsV es)) ∧ Below w.heap.size w w' := by
  obtain ⟨i0, hi0, hz0, hz1, hz2⟩ := info_parts info34
  obtain ⟨A, cap, hv⟩ := h.shape
  have hel := he.1
  go_enter Tryd.func25, Tryd.ntmps25
  subst hv
  go_wp2
  go_loopw [3, 8] (fun vo vi wr => ∃ k : Nat, vi = .int .i64 k ∧ k ≤ es.length ∧ wr.ownsRow w.heap.size 34 4 vo k (endsV (es.take k)) ∧ Below w.heap.size w wr) (fun _ vi _ => es.length - (intOf vi).toNat)
  case atStart => exact ⟨0, rfl, Nat.zero_le _, ⟨by simp [endsV], Or.inl ⟨rfl, rfl⟩⟩, Below.refl _ _⟩
  case round =>
    obtain ⟨k, rfl, hk, how, hbw⟩ := hrel
    by_cases hlt : k < es.length
    · have hgp := List.getElem?_eq_getElem (show k < ps.length by omega)
      have hge := List.getElem?_eq_getElem hlt
      generalize ps[k]'_ = p at *
      generalize es[k] = e at *
      have heb := (he.below (hbw.mono (Nat.le_refl _))).2 k p e hgp hge
      have oke := hok e (List.mem_of_getElem? hge)
      have hgh := oke.h
      have hgn := oke.n
      obtain ⟨g, cap', hv', hcell⟩ := (h.below hbw).cell hgp
      have hpw := he.lt p (List.mem_of_getElem? hgp)
      obtain ⟨vh, vn, vo, vr, hb, r1, r2, r3, r4⟩ := heb
      have E0 : EC wr p _ := ⟨hb⟩
      have hk1 : ((k : Nat) : Int) < ((es.length : Nat) : Int) := by omega
      have hk2 : ((k : Nat) : Int) < ((ps.length : Nat) : Int) := by omega
      obtain ⟨rfl, rfl⟩ : A = some ⟨g, 0, none⟩ ∧ cap = cap' := by cases hv'; exact ⟨rfl, rfl⟩
      have hsn := endsV_snoc es k hge
      have hls := how.1
      have HEL := Lib.hid hel
      have HLEN := Lib.hid hlen
      clear hel hlen
      generalize ps.length = L at *
      generalize es.length = M at *
      go_wp2
      have D0 := E0.below (drew_below wr 1)
      have d0 := D0.cell 0
      have d1 := D0.cell 1
      have d2 := D0.cell 2
      have d3 := D0.cell 3
      simp only [List.getElem?_toArray, List.getElem?_cons_succ, List.getElem?_cons_zero] at d0 d1 d2 d3
      have h45 := textO_any (r1.below (drew_below wr 1)) hgh
      have q2 := r2.below (drew_below wr 1)
      have how1 := own_below how (drew_below wr 1)
      have hbw1 : Below w.heap.size w (wr.drewN 1) := hbw.trans ((drew_below wr 1).mono hbw.size)
      have hm1 : k + 1 ≤ maxLen := by have := HLEN.out; unfold maxLen; omega
      have hm2 : (k + 1) * 48 ≤ 140737488355328 := by have := HLEN.out; omega
      have hpr := hbw.size
      go_region_held3 (fun w' => w'.cell? ⟨p, 0, none⟩ = some (.int .i64 (e.st : Nat)) ∧ w'.cell? ⟨p, 1, none⟩ = some (.int .i64 (e.u : Nat)) ∧ w'.cell? ⟨p, 2, none⟩ = some vh ∧ w'.cell? ⟨p, 3, none⟩ = some vn) (first | exact ⟨d0, d1, d2, d3⟩ | exact ⟨m0, m1, m2, m3⟩ | exact ⟨n0', n1, n2, n3⟩ | exact ⟨o0 _, o1 _, o2 _, o3 _⟩ | exact ⟨p0, p1, p2, p3⟩)
        (first
          | (go_at_call_of 45 vh; refine Calls.mono h45 (fun e5 w5 hp => ?_); obtain ⟨rfl, b5⟩ := hp; have D5 := D0.below b5; have m0 := D5.cell 0; have m1 := D5.cell 1; have m2 := D5.cell 2; have m3 := D5.cell 3; simp only [List.getElem?_toArray, List.getElem?_cons_succ, List.getElem?_cons_zero] at m0 m1 m2 m3; have h45' := textO_any (q2.below b5) hgn; have how5 := own_below how1 b5; have hbw5 := hbw1.trans (b5.mono hbw1.size))
          | (go_at_call_of 45 vn; refine Calls.mono h45' (fun e6 w6 hp => ?_); obtain ⟨rfl, b6⟩ := hp; have D6 := D5.below b6; have n0' := D6.cell 0; have n1 := D6.cell 1; have n2 := D6.cell 2; have n3 := D6.cell 3; have o0 := fun o => (D6.below (al_below w6 o)).cell 0; have o1 := fun o => (D6.below (al_below w6 o)).cell 1; have o2 := fun o => (D6.below (al_below w6 o)).cell 2; have o3 := fun o => (D6.below (al_below w6 o)).cell 3; simp only [List.getElem?_toArray, List.getElem?_cons_succ, List.getElem?_cons_zero] at n0' n1 n2 n3 o0 o1 o2 o3; have how6 := fun o => own_below (own_below how5 b6) (al_below w6 o); have hbw6 := hbw5.trans (b6.mono hbw5.size); have hbw7 := fun o => hbw6.trans ((al_below w6 o).mono hbw6.size); have hsz : ∀ o, (w6.alloc o).heap.size = w6.heap.size + 1 := fun o => World.size_alloc _ _)
          | (refine step_append_lies _ (by rfl) (.tmp 12) (.tmp 32) 31 (by rfl) w.heap.size 34 i0 _ 4 48 Tryd.underlying31 hi0 hz0 hz1 hz2 rfl (by omega) u3 k (endsV (es.take k)) (by rfl) (how6 _) ⟨w6.heap.size, 0, none⟩ 1 1 [.int .i64 (e.st : Nat), .int .i64 (e.u : Nat), str (txO e.h), str (txO e.n)] (by rfl) (by rfl)
              (World.news_of_block (cs := #[.int .i64 (e.st : Nat), .int .i64 (e.u : Nat), str (txO e.h), str (txO e.n)]) (t := 34) (fr := (0, 0)) (new_blk w6 _ _)) (by simp [Value.oneCell', str]) (by omega) hm1 hm2 (hbw7 _).size (w6.heap.size + 1) (hsz _) ?_
             intro gg cap9 w9 hown hgrow hat hlt9
             have hb9 := grown_below hgrow (own_base how) (hbw7 _).size
             have hbw9 := (hbw7 _).trans hb9
             have pf := fun j => hb9.cell (p := ⟨p, j, none⟩) hpw
             have p0 := (pf 0).trans (o0 _)
             have p1 := (pf 1).trans (o1 _)
             have p2 := (pf 2).trans (o2 _)
             have p3 := (pf 3).trans (o3 _))
          | fail)
      go_wp2
      go_roundw
      case rel => exact ⟨k + 1, by go_num, by omega, by rw [hsn]; exact hown, hbw9⟩
      case measure => simp [intOf]; omega
    · have hk1 : ¬ ((k : Nat) : Int) < ((es.length : Nat) : Int) := by omega
      obtain rfl : k = es.length := by omega
      rw [List.take_length] at how
      go_wp2
      go_ret
      exact ⟨⟨_, rfl, how⟩, hbw⟩
end Go.Proofs.YthigfakjiknhcaaDoorT
