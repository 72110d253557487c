/- New, walked. -/
import Derived.Test.YthigfakjiknhcaaDoorTyn
namespace Go.Proofs.YthigfakjiknhcaaDoorT
open Go Go.Proofs Go.RowKit Go.Shelf
set_option linter.unusedSimpArgs false
set_option linter.unusedVariables false
attribute [local go_sem] Oper.semAt_some
def heldBy (pre : List (List UInt8)) : List (List UInt8) := pre.foldl (fun ks p => (hear ks (mkA p)).2) []
theorem heldBy_snoc (pre : List (List UInt8)) (p : List UInt8) : heldBy (pre ++ [p]) = (hear (heldBy pre) (mkA p)).2 := by simp [heldBy]
def piecesN : List (List UInt8) := [[111, 107], [120, 48], [120, 49], [120, 50], [120, 51]]
/-- what New has made so far: in blocks from n1 on -/
structure IN (w0 : World) (b c kb : Nat) (ks : List (List UInt8)) (W : World) : Prop where
  bl : Below w0.heap.size w0 W
  bb : W.heap[b]? = some (.cells #[.pointer (some ⟨kb, 0, none⟩), .slice none 0 0, .slice none 0 0, .bool false, .bool false, .bool false, .bool false] 42 (0, 0))
  cc : W.heap[c]? = some (.cells #[.pointer (some ⟨b, 0, none⟩)] 23 (0, 0))
  st : SB W kb ks
  gb : w0.heap.size ≤ b
  gk : w0.heap.size ≤ kb
theorem IN.kb {w0 W W' : World} {b c kb l : Nat} {ks : List (List UInt8)} (h : IN w0 b c kb ks W) (k : KB l W W') (hb : l ≠ b) (hc : l ≠ c) (hk : l ≠ kb) (hm : ∀ es ck, W.heap[l]? ≠ some (.map es ck)) (hl : w0.heap.size ≤ l) : IN w0 b c kb ks W' :=
  ⟨k.to_below h.bl hl h.bl.size, k.at h.bb (Ne.symm hb), k.at h.cc (Ne.symm hc), h.st.kb k (Ne.symm hk) hm, h.gb, h.gk⟩
theorem put_kb (W : World) (l : Nat) (o : Obj) : KB l W (W.putObj l o) := ⟨rfl, rfl, rfl, by simp, fun i hi hne => World.putObj_heap_other hne⟩
theorem IN.put {w0 W : World} {b c kb l : Nat} {ks : List (List UInt8)} (h : IN w0 b c kb ks W) {o o' : Obj} (hl : W.heap[l]? = some o) (ho : o.isCells = false) (hm : ∀ es ck, o ≠ .map es ck) (hge : w0.heap.size ≤ l) : IN w0 b c kb ks (W.putObj l o') := by
  refine h.kb (put_kb W l o') ?_ ?_ ?_ ?_ hge
  · rintro rfl; have := h.bb; rw [hl] at this; cases this; cases ho
  · rintro rfl; have := h.cc; rw [hl] at this; cases this; cases ho
  · rintro rfl; obtain ⟨m, h1, _⟩ := h.st; rw [hl] at h1; cases h1; cases ho
  · intro es ck e; rw [hl] at e; cases e; exact hm _ _ rfl
theorem IN.below {w0 W W' : World} {b c kb : Nat} {ks : List (List UInt8)} (h : IN w0 b c kb ks W) (hb : Below W.heap.size W W') : IN w0 b c kb ks W' :=
  ⟨h.bl.trans (hb.mono h.bl.size), by rw [hb.block _ (Array.getElem?_eq_some_iff.1 h.bb).1]; exact h.bb, by rw [hb.block _ (Array.getElem?_eq_some_iff.1 h.cc).1]; exact h.cc, h.st.below hb, h.gb, h.gk⟩
set_option maxHeartbeats 4000000 in
set_option maxRecDepth 100000 in
theorem new_any (w : World) : Calls Tryd.prog 4 #[] w fun e w' => ∃ b, e = .returned (.pointer (some ⟨b, 0, none⟩)) ∧ WW w.heap.size w' b ⟨heldBy piecesN, [], [], fun _ => false⟩ ∧ Below w.heap.size w w' := by
  refine (callsIn_wide (n := 6)).1 ?_
  refine callsIn_of_wp_marks Tryd.func4 rfl trivial ?_ rfl
  simp only [Tryd.ntmps4, List.size_toArray, List.length_nil, Nat.reduceSub, Array.replicate_succ, Array.replicate_zero, List.push_toArray, List.append_toArray, List.nil_append, List.cons_append]
  have hn : (1 : Nat) ≤ 6 := by omega
  gi_wp2_with (first | (refine ⟨trivial, ?_⟩; gi_at_call 10; refine (callsIn_wide.2 knew_any).mono ?_; rintro e w1 ⟨⟨kb, rfl, hkb, hs⟩, b1⟩) | fail)
  have hk1 : kb < w1.heap.size := by obtain ⟨m, h1, _⟩ := hs; exact (Array.getElem?_eq_some_iff.1 h1).1
  have hin : IN w w1.heap.size (w1.heap.size + 1) kb [] ((w1.alloc (.cells #[.pointer (some ⟨kb, 0, none⟩), .slice none 0 0, .slice none 0 0, .bool false, .bool false, .bool false, .bool false] 42)).alloc (.cells #[.pointer (some ⟨w1.heap.size, 0, none⟩)] 23)) := by
    have s1 : (w1.alloc (.cells #[.pointer (some ⟨kb, 0, none⟩), .slice none 0 0, .slice none 0 0, .bool false, .bool false, .bool false, .bool false] 42)).heap.size = w1.heap.size + 1 := World.size_alloc _ _
    have h1 := new_blk w1 #[.pointer (some ⟨kb, 0, none⟩), .slice none 0 0, .slice none 0 0, .bool false, .bool false, .bool false, .bool false] 42
    have h2 := new_blk (w1.alloc (.cells #[.pointer (some ⟨kb, 0, none⟩), .slice none 0 0, .slice none 0 0, .bool false, .bool false, .bool false, .bool false] 42)) #[.pointer (some ⟨w1.heap.size, 0, none⟩)] 23
    rw [s1] at h2
    have hb := (al_below w1 (.cells #[.pointer (some ⟨kb, 0, none⟩), .slice none 0 0, .slice none 0 0, .bool false, .bool false, .bool false, .bool false] 42))
    have hb2 := (al_below (w1.alloc (.cells #[.pointer (some ⟨kb, 0, none⟩), .slice none 0 0, .slice none 0 0, .bool false, .bool false, .bool false, .bool false] 42)) (.cells #[.pointer (some ⟨w1.heap.size, 0, none⟩)] 23))
    refine ⟨(b1.trans (hb.mono b1.size)).trans (hb2.mono (by rw [s1]; have := b1.size; omega)), ?_, h2, (hs.below hb).below hb2, b1.size, hkb⟩
    rw [hb2.block _ (by rw [s1]; omega)]
    exact h1
  have hsz : ((w1.alloc (.cells #[.pointer (some ⟨kb, 0, none⟩), .slice none 0 0, .slice none 0 0, .bool false, .bool false, .bool false, .bool false] 42)).alloc (.cells #[.pointer (some ⟨w1.heap.size, 0, none⟩)] 23)).heap.size = w1.heap.size + 2 := by rw [World.size_alloc, World.size_alloc]
  generalize (w1.alloc (.cells #[.pointer (some ⟨kb, 0, none⟩), .slice none 0 0, .slice none 0 0, .bool false, .bool false, .bool false, .bool false] 42)).alloc (.cells #[.pointer (some ⟨w1.heap.size, 0, none⟩)] 23) = W2 at *
  have HS := Lib.hid hsz
  clear hsz
  have h11 := split11_any [111, 107, 32, 120, 48, 32, 120, 49, 32, 120, 50, 32, 120, 51] W2
  gi_wp2_with (first | (refine ⟨trivial, ?_⟩; gi_at_call 11; refine (callsIn_wide.2 h11).mono ?_; rintro e w3 ⟨rfl, hq, b3, z3⟩) | fail)
  have hi3 := hin.below b3
  have hlt : w.heap.size ≤ W2.heap.size := hin.bl.size
  have hmem : ∀ p ∈ piecesN, (∀ c ∈ p, c ≠ 32) ∧ 0 < p.length ∧ p.length ≤ 10 := by decide
  have hsz := HS.out
  have hjn : joinS piecesN = [111, 107, 32, 120, 48, 32, 120, 49, 32, 120, 50, 32, 120, 51] := by decide
  generalize hB : w1.heap.size = B at *
  refine range_law rfl (by omega) (gf := 46) (lb := #[.pointer (some ⟨W2.heap.size + 1, 0, none⟩), .pointer (some ⟨W2.heap.size, 0, none⟩), .pointer (some ⟨W2.heap.size + 2, 0, none⟩)]) rfl trivial (enters_of Tryd.func46 (by kernel_rfl) rfl) rfl
    W2.heap.size [111, 107, 32, 120, 48, 32, 120, 49, 32, 120, 50, 32, 120, 51] piecesN hq ?it
    (fun pre W => IN w B (B + 1) kb (heldBy pre) W ∧ ∃ cs, W.heap[W2.heap.size]? = some (.cells cs 9 (0, 0))) ?ia ?ip ?is ⟨hi3, _, hq.1⟩
    (fun p => { tmps := #[.pointer none, .pointer (some ⟨B + 1, 0, none⟩), str p, undef, undef, .pointer (some ⟨kb, 0, none⟩), .agg #[.pointer (some ⟨kb, 0, none⟩), .slice none 0 0, .slice none 0 0, .bool false, .bool false, .bool false, .bool false], .pointer (some ⟨B, 0, none⟩), .func (.func 46) #[] #[.pointer (some ⟨W2.heap.size + 1, 0, none⟩), .pointer (some ⟨W2.heap.size, 0, none⟩), .pointer (some ⟨W2.heap.size + 2, 0, none⟩)], str p, undef, undef, undef, undef, undef, undef, undef, undef, undef, undef, undef, undef], defers := [] }) ?assign ?body ?done
  case it =>
    intro l J W hJ hY hS h0
    have := seq46 5 l W2.heap.size (by omega) piecesN (by decide) (fun p hp => ⟨(hmem p hp).1, (hmem p hp).2.1⟩) (by rw [hjn]; decide) J hJ hY W (by rw [hjn]; exact hS) h0
    exact this
  case ia => exact fun pre W o h => ⟨h.1.below (al_below W o), by obtain ⟨cs, hc⟩ := h.2; exact ⟨cs, (Below.heap_alloc _ _ _ (Array.getElem?_eq_some_iff.1 hc).1).trans hc⟩⟩
  case ip =>
    intro pre W l L o' hl h hL
    refine ⟨h.1.put hL rfl (by intro es ck e; cases e) (by have := b3.size; omega), ?_⟩
    obtain ⟨cs, hc⟩ := h.2
    exact ⟨cs, (World.putObj_heap_other (fun e => by subst e; rw [hc] at hL; cases hL)).trans hc⟩
  case is =>
    intro pre W v h
    obtain ⟨cs, hc⟩ := h.2
    refine ⟨h.1.kb (set_kb W W2.heap.size 0 v) (by omega) (by omega) (by omega) (by intro es ck e; rw [hc] at e; cases e) hlt, cs.setIfInBounds 0 v, ?_⟩
    simp [World.setCell, Array.getElem?_modify, hc]
  case assign =>
    clear hsz
    intro l x W K hK
    gi_wp2
    exact hK
  case body =>
    rintro l pre p W s hpre ⟨hi, cs, hc⟩ hsq
    have hpm : p ∈ piecesN := hpre.subset (by simp)
    have hpl := (hmem p hpm).2.2
    have cb : W.cell? ⟨B, 0, none⟩ = some (.pointer (some ⟨kb, 0, none⟩)) := by rw [cell_at hi.bb 0]; rfl
    have cc : W.cell? ⟨B + 1, 0, none⟩ = some (.pointer (some ⟨B, 0, none⟩)) := by rw [cell_at hi.cc 0]; rfl
    have hg : goodO (mkA p) := by
      unfold mkA
      split
      · rename_i h
        exact fun t ht => by cases ht; exact good_atom h
      · exact fun t ht => by cases ht
    have h12 := atom_any (w := W) p (by omega)
    have h13 := fun v (hv : RO W (mkA p) v) => hear_any hi.st hv (fun x hx => (hg x hx).len)
    have hn4 : (1 : Nat) ≤ 4 := by omega
    have hkb4 : kb ≠ W2.heap.size := by omega
    have hkb5 : kb ≠ W2.heap.size + 1 := by omega
    have hkb6 : kb ≠ W2.heap.size + 2 := by omega
    have hkB : kb ≠ B := by omega
    have hkB1 : kb ≠ B + 1 := by omega
    clear hsz
    gi_wp2_with (first | (refine ⟨trivial, ?_⟩; gi_at_call 12; refine (CallsIn.inRound l (callsIn_wide.2 h12)).mono ?_; rintro e w' ⟨⟨v, rfl, hv⟩, rfl⟩) | (refine ⟨trivial, ?_⟩; gi_at_call 13; refine (CallsIn.inRound l (callsIn_wide.2 (h13 v hv))).mono ?_; rintro e w4 ⟨rfl, q1, q2⟩) | fail)
    refine ⟨⟨q2.size, fun k o hk ho => q2.at hk (fun e => ?_)⟩, ⟨q2.at hsq.1 (Ne.symm hkb4), q2.at hsq.2.1 (Ne.symm hkb5), q2.at hsq.2.2 (Ne.symm hkb6)⟩, ?_, cs, q2.at hc (Ne.symm hkb4)⟩
    · subst e
      obtain ⟨m, z1, _⟩ := hi.st
      rw [z1] at hk
      cases hk
      cases ho
    · rw [heldBy_snoc]
      exact ⟨q2.to_below hi.bl hi.gk hi.bl.size, q2.at hi.bb (Ne.symm hkB), q2.at hi.cc (Ne.symm hkB1), q1, hi.gb, hi.gk⟩
  case done =>
    clear hsz
    rintro D W hD ⟨hi, _⟩ hK
    have cc : W.cell? ⟨B + 1, 0, none⟩ = some (.pointer (some ⟨B, 0, none⟩)) := by rw [cell_at hi.cc 0]; rfl
    gi_wp2
    have hf := hi.put (o' := .deferred none) hK rfl (by intro es ck e; cases e) (by have := b3.size; omega)
    refine ⟨by simp, .inl ⟨_, _, rfl, run_takeDeferred hK, ?_⟩⟩
    refine ⟨_, results_tmp rfl _ _ _, B, rfl, ⟨kb, .slice none 0 0, .slice none 0 0, [], [], ?_⟩, hf.bl⟩
    exact ⟨hf.bb, hf.st, ⟨rfl, Or.inl ⟨rfl, rfl⟩⟩, ⟨rfl, Or.inl ⟨rfl, rfl⟩⟩, ⟨rfl, fun i p e h => (by cases h)⟩, ⟨rfl, fun i p e h => (by cases h)⟩, List.nodup_nil, fun g hg => (by cases hg), hf.gb, fun p hp => (by cases hp), hf.bl.size⟩
end Go.Proofs.YthigfakjiknhcaaDoorT
