/- Blocks numbered anew; what is lent. -/
import Derived.Test.YtchoafdpckknmaaDoorEvW
namespace Go.Proofs.YtchoafdpckknmaaDoorE
open Go
set_option linter.unusedSimpArgs false
set_option linter.unusedVariables false
variable {P : Program} {w : World} {m : Nat → Option Nat} {I O : Nat → Prop} {ρ ρ' : Pl} {H Hb : List Blk} {v v' : V} {x : Value}

theorem mapM_get' {α β : Type} {f : α → Option β} {l : List α} {r : List β} (h : l.mapM f = some r) {j : Nat} {b : β} (hb : r[j]? = some b) : ∃ a, l[j]? = some a ∧ f a = some b := by
 obtain ⟨h1, h2⟩ := mapM_get h
 have hj : j < l.length := by rw [← h1]; exact (List.getElem?_eq_some_iff.1 hb).1
 exact ⟨l[j], List.getElem?_eq_getElem hj, h2 j l[j] b (List.getElem?_eq_getElem hj) hb⟩

theorem ren_isCell {g : Nat → Option Nat} : ∀ {n : Nat} {v v' : V}, ren g n v = some v' → v'.isCell = v.isCell := by
 intro n v v' h
 cases n with
 | zero => simp [ren] at h
 | succ n =>
  cases v with
  | agg c =>
   cases c <;> simp only [ren, Option.some.injEq, Option.map_eq_some_iff] at h
   ·subst h; rfl
   ·obtain ⟨_, _, rfl⟩ := h; rfl
   ·subst h; rfl
  | ptr b o => simp only [ren, Option.map_eq_some_iff] at h; obtain ⟨_, _, rfl⟩ := h; rfl
  | sl b o l c s => simp only [ren, Option.map_eq_some_iff] at h; obtain ⟨_, _, rfl⟩ := h; rfl
  | fn f caps => simp only [ren, Option.map_eq_some_iff] at h; obtain ⟨_, _, rfl⟩ := h; rfl
  | tup l => simp only [ren, Option.map_eq_some_iff] at h; obtain ⟨_, _, rfl⟩ := h; rfl
  | _ => simp only [ren, Option.some.injEq] at h; subst h; rfl

theorem ren_rel {g : Nat → Option Nat} (hg : ∀ b b' r, g b = some b' → ρ b = some r → ρ' b' = some r) : ∀ {n : Nat} {v v' : V} {x : Value}, ren g n v = some v' → RelV m I w ρ v x → RelV m I w ρ' v' x := by
 intro n
 induction n with
 | zero => intro v v' x h; simp [ren] at h
 | succ n ih =>
  intro v v' x h hx
  cases hx with
  | ptr ρ b off r hr =>
   simp only [ren, Option.map_eq_some_iff] at h
   obtain ⟨b', h1, rfl⟩ := h
   exact .ptr _ _ _ _ (hg _ _ _ h1 hr)
  | sl0 ρ b off sz cap A hc =>
   simp only [ren, Option.map_eq_some_iff] at h
   obtain ⟨b', h1, rfl⟩ := h
   exact .sl0 _ _ _ _ _ _ hc
  | sl1 ρ b off len sz cap r rc k h1 h2 h3 h4 h5 =>
   simp only [ren, Option.map_eq_some_iff] at h
   obtain ⟨b', hb, rfl⟩ := h
   exact .sl1 _ _ _ _ _ _ _ _ _ (hg _ _ _ hb h1) h2 h3 h4 h5
  | fn ρ gg f caps cs hm hs hf =>
   simp only [ren, Option.map_eq_some_iff] at h
   obtain ⟨caps', h1, rfl⟩ := h
   obtain ⟨h2, h3⟩ := mapM_get h1
   refine .fn _ _ _ _ _ hm (by rw [hs, h2]) (fun j v x hv hx => ?_)
   obtain ⟨a, ha1, ha2⟩ := mapM_get' h1 hv
   exact ih ha2 (hf j a x ha1 hx)
  | tup ρ l vs hs hf =>
   simp only [ren, Option.map_eq_some_iff] at h
   obtain ⟨l', h1, rfl⟩ := h
   obtain ⟨h2, h3⟩ := mapM_get h1
   refine .tup _ _ _ (by rw [hs, h2]) (fun j v x hv hx => ?_)
   obtain ⟨a, ha1, ha2⟩ := mapM_get' h1 hv
   exact ih ha2 (hf j a x ha1 hx)
  | agg ρ c cs hs hc hf =>
   cases c with
   | ints k l =>
    simp only [ren, Option.some.injEq] at h; subst h
    refine .agg _ _ _ hs hc (fun j v x hv hx => ?_)
    have := hf j v x hv hx
    have hi : v.idf = true := by
     simp only [C.get, Option.map_eq_some_iff] at hv
     obtain ⟨_, _, rfl⟩ := hv; rfl
    exact this.idf hi _
   | vals l =>
    simp only [ren, Option.map_eq_some_iff] at h
    obtain ⟨l', h1, rfl⟩ := h
    obtain ⟨h2, h3⟩ := mapM_get h1
    refine .agg _ _ _ (by rw [hs]; exact h2.symm) (fun j v hv => ?_) (fun j v x hv hx => ?_)
    ·obtain ⟨a, ha1, ha2⟩ := mapM_get' h1 hv
     rw [ren_isCell ha2]; exact hc j a ha1
    ·obtain ⟨a, ha1, ha2⟩ := mapM_get' h1 hv
     exact ih ha2 (hf j a x ha1 hx)
   | imm l =>
    simp only [ren, Option.some.injEq] at h; subst h
    exact .agg _ _ _ hs hc hf
  | int => simp only [ren, Option.some.injEq] at h; subst h; exact .int _ _ _
  | bool => simp only [ren, Option.some.injEq] at h; subst h; exact .bool _ _
  | str => simp only [ren, Option.some.injEq] at h; subst h; exact .str _ _
  | nilp => simp only [ren, Option.some.injEq] at h; subst h; exact .nilp _
  | rptr ρ c r o f h1 h2 h3 => simp only [ren, Option.some.injEq] at h; subst h; exact .rptr _ _ _ _ _ h1 h2 h3
  | nils => simp only [ren, Option.some.injEq] at h; subst h; exact .nils _
  | ez => simp only [ren, Option.some.injEq] at h; subst h; exact .ez _ _
  | en => simp only [ren, Option.some.injEq] at h; subst h; exact .en _ _ _
  | rs ρ len c A rc f h1 h2 h3 h4 => simp only [ren, Option.some.injEq] at h; subst h; exact .rs _ _ _ _ _ _ h1 h2 h3 h4
  | tb ρ s l x h0 => simp only [ren, Option.some.injEq] at h; subst h; exact (RelV.tb ρ s l x h0).tb_any ρ'
  | nilf => simp only [ren, Option.some.injEq] at h; subst h; exact .nilf _
  | nili => simp only [ren, Option.some.injEq] at h; subst h; exact .nili _
  | undef => simp only [ren, Option.some.injEq] at h; subst h; exact .undef _ _

theorem renB_dead {g : Nat → Option Nat} {n : Nat} {b b' : Blk} (h : renB g n b = some b') : b' = .dead ↔ b = .dead := by
 cases b with
 | dead => simp only [renB, Option.some.injEq] at h; subst h; simp
 | iter s p => simp only [renB, Option.some.injEq] at h; subst h; simp
 | cells ro c =>
  cases c <;> simp only [renB, Option.some.injEq, Option.map_eq_some_iff] at h
  ·subst h; simp
  ·obtain ⟨_, _, rfl⟩ := h; simp
  ·subst h; simp
theorem renB_rel {g : Nat → Option Nat} (hg : ∀ b b' r, g b = some b' → ρ b = some r → ρ' b' = some r) {n r : Nat} {b b' : Blk} (h : renB g n b = some b') (hb : BRel m I O w ρ r b) : BRel m I O w ρ' r b' := by
 cases b with
 | dead => simp only [renB, Option.some.injEq] at h; subst h; exact trivial
 | iter s p => simp only [renB, Option.some.injEq] at h; subst h; exact hb
 | cells ro c =>
  obtain ⟨cs, e, fr, h1, h2, h3, h4, h5, h6, h7⟩ := hb
  cases c with
  | ints k l =>
   simp only [renB, Option.some.injEq] at h; subst h
   refine ⟨cs, e, fr, h1, h2, h3, h4, fun j v x hv hx => ?_, h6, h7⟩
   have hi : v.idf = true := by
    simp only [C.get, Option.map_eq_some_iff] at hv
    obtain ⟨_, _, rfl⟩ := hv; rfl
   exact (h5 j v x hv hx).idf hi _
  | vals l =>
   simp only [renB, Option.map_eq_some_iff] at h
   obtain ⟨l', k1, rfl⟩ := h
   obtain ⟨k2, k3⟩ := mapM_get k1
   refine ⟨cs, e, fr, h1, h2, by show l'.length ≤ _; rw [k2]; exact h3, fun j v hv => ?_, fun j v x hv hx => ?_, h6, h7⟩
   ·obtain ⟨a, ha1, ha2⟩ := mapM_get' k1 hv
    rw [ren_isCell ha2]; exact h4 j a ha1
   ·obtain ⟨a, ha1, ha2⟩ := mapM_get' k1 hv
    exact ren_rel hg ha2 (h5 j a x ha1 hx)
  | imm l =>
   simp only [renB, Option.some.injEq] at h; subst h
   exact ⟨cs, e, fr, h1, h2, h3, h4, h5, h6, h7⟩

theorem idx_get : ∀ {L : List Nat} {b j : Nat}, idx L b = some j → L[j]? = some b
 | [], b, j, h => by simp [idx] at h
 | a :: L, b, j, h => by
  simp only [idx] at h
  split at h
  ·rename_i e; injection h with h; subst h; subst e; rfl
  ·simp only [Option.map_eq_some_iff] at h
   obtain ⟨k, h1, rfl⟩ := h
   simpa using idx_get h1

theorem reach_spec {H : List Blk} : ∀ (n : Nat) (vs : List V) (acc : List Nat), acc.Nodup → (reach H n vs acc).Nodup ∧ ∃ t, reach H n vs acc = acc ++ t
 | 0, vs, acc, h => ⟨by simpa [reach] using h, [], by simp [reach]⟩
 | n + 1, [], acc, h => ⟨by simpa [reach] using h, [], by simp [reach]⟩
 | n + 1, v :: vs, acc, h => by
  simp only [reach]
  split
  ·rename_i b hb
   split
   ·exact reach_spec n vs acc h
   ·rename_i hc
    have hnd : (acc ++ [b]).Nodup := by
     rw [List.nodup_append]
     refine ⟨h, by simp, fun a ha c hcc => ?_⟩
     simp at hcc; subst hcc
     intro e; subst e
     exact hc (by simpa using ha)
    obtain ⟨h1, t, h2⟩ := reach_spec n (held H b ++ vs) (acc ++ [b]) hnd
    exact ⟨h1, b :: t, by rw [h2]; simp⟩
  ·exact reach_spec n _ acc h

/-- a heap numbered anew by a list of its blocks -/
def plL (L : List Nat) (ρ : Pl) : Pl := fun j => (L[j]?).bind ρ
theorem plL_idx {L : List Nat} : ∀ b b' r, idx L b = some b' → ρ b = some r → plL L ρ b' = some r := fun b b' r h hr => by
 simp [plL, idx_get h, hr]
theorem HRel.renum {L : List Nat} {n : Nat} {H' : List Blk} (hH : HRel m I O w ρ H) (hL : L.Nodup) (h : (L.mapM fun i => (H[i]?).bind (renB (idx L) n)) = some H') : HRel m I O w (plL L ρ) H' ∧ H'.length = L.length := by
 obtain ⟨hlen, _⟩ := mapM_get h
 have back : ∀ i r, plL L ρ i = some r → ∃ a b b', L[i]? = some a ∧ ρ a = some r ∧ H[a]? = some b ∧ renB (idx L) n b = some b' ∧ H'[i]? = some b' := by
  intro i r hr
  simp only [plL, Option.bind_eq_some_iff] at hr
  obtain ⟨a, h1, h2⟩ := hr
  have hi : i < H'.length := by rw [hlen]; exact (List.getElem?_eq_some_iff.1 h1).1
  obtain ⟨a', g1, g2⟩ := mapM_get' h (List.getElem?_eq_getElem hi)
  rw [h1] at g1; injection g1 with g1; subst g1
  simp only [Option.bind_eq_some_iff] at g2
  obtain ⟨b, g3, g4⟩ := g2
  exact ⟨a, b, _, h1, h2, g3, g4, List.getElem?_eq_getElem hi⟩
 refine ⟨⟨fun i j r hi hj li lj => ?_, fun i r hi => ?_, fun i r hi => ?_, hH.own, hH.imm, hH.dis, hH.tab⟩, hlen⟩
 ·obtain ⟨a1, b1, c1, p1, p2, p3, p4, p5⟩ := back i r hi
  obtain ⟨a2, b2, c2, q1, q2, q3, q4, q5⟩ := back j r hj
  have l1 : live H a1 := by
   obtain ⟨c, hc, hd⟩ := li
   rw [p5] at hc; injection hc with hc; subst hc
   exact ⟨b1, p3, fun e => hd ((renB_dead p4).2 e)⟩
  have l2 : live H a2 := by
   obtain ⟨c, hc, hd⟩ := lj
   rw [q5] at hc; injection hc with hc; subst hc
   exact ⟨b2, q3, fun e => hd ((renB_dead q4).2 e)⟩
  have ha := hH.inj a1 a2 r p2 q2 l1 l2
  subst ha
  have h1 := List.getElem?_eq_some_iff.1 p1
  have h2 := List.getElem?_eq_some_iff.1 q1
  obtain ⟨i1, e1⟩ := h1
  obtain ⟨i2, e2⟩ := h2
  have hpw := List.pairwise_iff_getElem.1 hL
  rcases Nat.lt_trichotomy i j with hlt | heq | hgt
  ·exact absurd (e1.trans e2.symm) (hpw i j i1 i2 hlt)
  ·exact heq
  ·exact absurd (e2.trans e1.symm) (hpw j i i2 i1 hgt)
 ·obtain ⟨a1, b1, c1, p1, p2, p3, p4, p5⟩ := back i r hi
  exact ⟨c1, p5, renB_rel (fun b b' r h hr => plL_idx b b' r h hr) p4 (hH.at p3 p2)⟩
 ·obtain ⟨a1, b1, c1, p1, p2, p3, p4, p5⟩ := back i r hi
  exact hH.lt a1 r p2

theorem compact_rel {n0 : Nat} {roots vs : List V} {H' : List Blk} {xs : List Value} (h : compact n0 roots H = some (vs, H')) (hH : HRel m I O w ρ H) (hl : xs.length = roots.length)
  (hr : ∀ (j : Nat) (v : V) (x : Value), roots[j]? = some v → xs[j]? = some x → RelV m I w ρ v x) :
  ∃ ρ', HRel m I O w ρ' H' ∧ (∀ i, i < n0 → ρ' i = ρ i) ∧ n0 ≤ H'.length ∧ vs.length = roots.length ∧ (∀ (j : Nat) (v : V) (x : Value), vs[j]? = some v → xs[j]? = some x → RelV m I w ρ' v x) ∧
   (∀ i r, ρ' i = some r → n0 ≤ i → ∃ i', n0 ≤ i' ∧ ρ i' = some r) ∧ (∀ j, j < n0 → live H' j → live H j) := by
 simp only [compact, Option.bind_eq_some_iff, Option.map_eq_some_iff, Prod.mk.injEq] at h
 obtain ⟨vs', h1, H1, h2, rfl, rfl⟩ := h
 generalize hL : reach H far (roots ++ (List.range n0).flatMap (held H)) (List.range n0) = L at h1 h2
 obtain ⟨hnd, t, ht⟩ := reach_spec (H := H) far (roots ++ (List.range n0).flatMap (held H)) (List.range n0) List.nodup_range
 rw [hL] at hnd ht
 obtain ⟨k1, k2⟩ := hH.renum hnd h2
 obtain ⟨g1, g2⟩ := mapM_get h1
 refine ⟨plL L ρ, k1, fun i hi => ?_, by rw [k2, ht]; simp, g1, fun j v x hv hx => ?_, fun i r hr hi => ?_, fun j hj hl => ?_⟩
 ·have : L[i]? = some i := by rw [ht, List.getElem?_append_left (by simpa using hi), List.getElem?_range hi]
  simp [plL, this]
 ·obtain ⟨a, ha1, ha2⟩ := mapM_get' h1 hv
  exact ren_rel (fun b b' r h hr => plL_idx b b' r h hr) ha2 (hr j a x ha1 hx)
 ·simp only [plL, Option.bind_eq_some_iff] at hr
  obtain ⟨a, h3, h4⟩ := hr
  refine ⟨a, ?_, h4⟩
  rw [ht, List.getElem?_append_right (by simpa using hi)] at h3
  rw [ht, List.nodup_append] at hnd
  rcases Nat.lt_or_ge a n0 with h5 | h5
  ·exact absurd rfl (hnd.2.2 a (by simpa using h5) a (List.mem_of_getElem? h3))
  ·exact h5
 ·obtain ⟨b, hb, hd⟩ := hl
  obtain ⟨a, h3, h4⟩ := mapM_get' h2 hb
  rw [ht, List.getElem?_append_left (by simpa using hj), List.getElem?_range hj] at h3
  injection h3 with h3
  subst h3
  simp only [Option.bind_eq_some_iff] at h4
  obtain ⟨b0, h5, h6⟩ := h4
  exact ⟨b0, h5, fun e => hd ((renB_dead h6).2 e)⟩

/-- what may be lent becomes immutable for the callee -/
def lentI (I : Nat → Prop) (ρ : Pl) (H : List Blk) (FL : List Nat) : Nat → Prop := fun k => I k ∨ ∃ i ro c, i ∈ FL ∧ ρ i = some k ∧ H[i]? = some (.cells ro c)

theorem RelV.toI {I' : Nat → Prop} (h : RelV m I w ρ v x) (hI : ∀ k, I k → I' k) : RelV m I' w ρ v x :=
 h.mono hI (fun _ _ => rfl) (fun _ _ h => h) ρ (fun _ _ h => h)

theorem asR_get {c c' : C} (h : asR c = some c') (j : Nat) : c'.get j = c.get j ∧ ∀ v x, c.get j = some v → RelV m I w (plC c ρ) v x → RelV m I w noPl v x := by
 unfold asR at h
 split at h
 ·rename_i hi
  injection h with h; subst h
  exact ⟨rfl, fun v x _ hx => by unfold plC at hx; rw [if_pos hi] at hx; exact hx⟩
 ·split at h <;> try (cases h; done)
  ·rename_i l
   split at h <;> try (cases h; done)
   rename_i ha
   injection h with h; subst h
   exact ⟨rfl, fun v x hv hx => (plC_to hx).idf (List.all_eq_true.1 ha v (List.mem_of_getElem? hv)) _⟩
  ·rename_i k l
   injection h with h; subst h
   refine ⟨rfl, fun v x hv hx => ?_⟩
   simp only [C.get, Option.map_eq_some_iff] at hv
   obtain ⟨n, _, rfl⟩ := hv
   exact (plC_to hx).idf rfl _
theorem lend_isCell {FL : List Nat} : ∀ {n : Nat} {v v' : V}, lend H FL n v = some v' → v'.isCell = v.isCell := by
 intro n v v' h
 cases n with
 | zero => simp [lend] at h
 | succ n =>
  cases v with
  | agg c =>
   cases c <;> simp only [lend, Option.some.injEq, Option.map_eq_some_iff] at h
   ·subst h; rfl
   ·obtain ⟨_, _, rfl⟩ := h; rfl
   ·subst h; rfl
  | sl b off len cap sz =>
   simp only [lend] at h
   split at h <;> try (cases h; done)
   split at h <;> try (cases h; done)
   split at h <;> try (cases h; done)
   split at h
   ·simp only [Option.bind_eq_some_iff] at h
    obtain ⟨_, _, h⟩ := h
    split at h <;> try (cases h; done)
    injection h with h; subst h; rfl
   ·injection h with h; subst h; rfl
  | ptr b o =>
   simp only [lend] at h
   split at h
   ·injection h with h; subst h; rfl
   split at h <;> try (cases h; done)
   simp only [Option.map_eq_some_iff] at h
   obtain ⟨_, _, rfl⟩ := h; rfl
  | tup l => simp [lend] at h
  | undef => simp [lend] at h
  | _ => simp only [lend, Option.some.injEq] at h; subst h; rfl

theorem lend_rel {FL : List Nat} (hp : ∀ (i : Nat) (b : Blk), H[i]? = some b → Hb[i]? = some b) (hH : HRel m I O w ρ Hb) : ∀ {n : Nat} {v v' : V} {x : Value}, lend H FL n v = some v' → RelV m I w ρ v x → RelV m (lentI I ρ H FL) w ρ v' x := by
 intro n
 induction n with
 | zero => intro v v' x h; simp [lend] at h
 | succ n ih =>
  intro v v' x h hx
  have same : lend H FL (n + 1) v = some v → v = v' → RelV m (lentI I ρ H FL) w ρ v' x := fun _ e => by subst e; exact hx.toI (fun _ h => .inl h)
  cases v with
  | sl b off len cap sz =>
   simp only [lend] at h
   split at h <;> try (cases h; done)
   rename_i hFL
   split at h <;> try (cases h; done)
   rename_i ro c hb
   split at h <;> try (cases h; done)
   rename_i hle
   -- the cells that are lent
   have key : ∀ cc : C, (∀ j v, cc.get j = some v → ∃ u, (c.sub off (len * sz)).get j = some u ∧ v.isCell = true ∧ ∀ y, RelV m I w (plC c ρ) u y → RelV m (lentI I ρ H FL) w noPl v y) → RelV m (lentI I ρ H FL) w ρ (.rs len cc) x := by
    intro cc hcc
    cases hx with
    | sl0 _ _ _ _ _ A hcap =>
     refine .rs _ _ _ _ _ (fun _ => undef) (Nat.le_refl _) (fun j v hv => ?_) (fun j v hv => ?_) (fun _ => rfl)
     ·obtain ⟨u, hu, _⟩ := hcc j v hv
      have := (C.get_sub hu).1; simp at this
     ·obtain ⟨u, hu, _⟩ := hcc j v hv
      have := (C.get_sub hu).1; simp at this
    | sl1 _ _ _ _ _ _ r rc k h1 h2 h3 h4 h5 =>
     have hB := hH.at (hp _ _ hb) h1
     refine .rs _ _ _ _ _ (fun j => (w.cell? ⟨r, off + j, none⟩).getD undef) h2 (fun j v hv => ?_) (fun j v hv => ?_) (fun h => by cases h)
     ·obtain ⟨u, hu, hcell, _⟩ := hcc j v hv
      obtain ⟨_, z, hz, _⟩ := hB.cell (C.get_sub hu).2
      exact ⟨hcell, r, off, rfl, .inr ⟨b, ro, c, by simpa using hFL, h1, hb⟩, by rw [hz]; rfl⟩
     ·obtain ⟨u, hu, hcell, hrel⟩ := hcc j v hv
      obtain ⟨_, z, hz, hr⟩ := hB.cell (C.get_sub hu).2
      simp only [hz]
      exact hrel z hr
   split at h
   ·rename_i l hl
    simp only [Option.bind_eq_some_iff] at h
    obtain ⟨l', h1, h⟩ := h
    split at h <;> try (cases h; done)
    rename_i hall
    injection h with h; subst h
    refine key _ (fun j v hv => ?_)
    obtain ⟨u, hu1, hu2⟩ := mapM_get' h1 hv
    have hus : (c.sub off (len * sz)).get j = some u := by rw [hl]; exact hu1
    have hidf : v.idf = true := List.all_eq_true.1 hall v (List.mem_of_getElem? hv)
    have hcI : c.isImm = false := by rw [← C.isImm_sub c off (len * sz), hl]; rfl
    refine ⟨u, hus, ?_, fun y hy => ?_⟩
    ·cases v <;> first | rfl | simp [V.idf] at hidf
    ·have hy' : RelV m I w ρ u y := by
      have : plC c ρ = ρ := by simp [plC, hcI]
      rwa [this] at hy
     exact (ih hu2 hy').idf hidf _
   ·rename_i hnv
    injection h with h; subst h
    refine key _ (fun j v hv => ?_)
    have hcell : v.isCell = true := by
     cases hx with
     | sl0 _ _ _ _ _ A hcap => have := (C.get_sub hv).1; simp at this
     | sl1 _ _ _ _ _ _ r rc k h1 h2 h3 h4 h5 => exact ((hH.at (hp _ _ hb) h1).cell (C.get_sub hv).2).1
    refine ⟨v, hv, hcell, fun y hy => ?_⟩
    cases hcc : c with
    | ints k l =>
     subst hcc
     have hi : v.idf = true := by
      have := (C.get_sub hv).2
      simp only [C.get, Option.map_eq_some_iff] at this
      obtain ⟨_, _, rfl⟩ := this; rfl
     exact (hy.idf hi noPl).toI (fun _ h => .inl h)
    | vals l => subst hcc; exact absurd rfl (hnv _)
    | imm l =>
     subst hcc
     exact RelV.toI hy (fun _ h => .inl h)
  | agg c =>
   cases c with
   | ints k l => simp only [lend, Option.some.injEq] at h; exact same (by simp [lend]) h
   | imm l => simp only [lend, Option.some.injEq] at h; exact same (by simp [lend]) h
   | vals l =>
    simp only [lend, Option.map_eq_some_iff] at h
    obtain ⟨l', h1, rfl⟩ := h
    obtain ⟨h2, h3⟩ := mapM_get h1
    cases hx with
    | agg _ _ cs hs hc hf =>
     refine .agg _ _ _ (by rw [hs]; exact h2.symm) (fun j v hv => ?_) (fun j v x hv hx => ?_)
     ·obtain ⟨a, ha1, ha2⟩ := mapM_get' h1 hv
      rw [lend_isCell ha2]; exact hc j a ha1
     ·obtain ⟨a, ha1, ha2⟩ := mapM_get' h1 hv
      exact ih ha2 (hf j a x ha1 hx)
  | ptr b o =>
   simp only [lend] at h
   split at h
   ·rename_i hFL; injection h with h; exact same (by simp only [lend]; rw [if_pos hFL]) h
   rename_i hFL
   split at h <;> try (cases h; done)
   rename_i ro c hb
   simp only [Option.map_eq_some_iff] at h
   obtain ⟨c', hc', rfl⟩ := h
   cases hx with
   | ptr _ _ _ r hr =>
    have hB := hH.at (hp _ _ hb) hr
    have hcell : ∀ (j : Nat) (v : V), (c'.drop o).get j = some v → v.isCell = true ∧ ∃ x, w.cell? ⟨r, o + j, none⟩ = some x ∧ RelV m I w noPl v x := fun j v hj => by
     rw [C.get_drop] at hj
     obtain ⟨k1, k2⟩ := asR_get (m := m) (I := I) (w := w) (ρ := ρ) hc' (o + j)
     rw [k1] at hj
     obtain ⟨h1, x, h2, h3⟩ := hB.cell hj
     exact ⟨h1, x, h2, k2 v x hj h3⟩
    refine .rptr _ _ r o (fun j => (w.cell? ⟨r, o + j, none⟩).getD undef) (.inr ⟨b, ro, c, by simpa using hFL, hr, hb⟩) (fun j v hj => ?_) (fun j v hj => ?_)
    ·obtain ⟨h1, x, h2, _⟩ := hcell j v hj
     exact ⟨h1, by rw [h2]; rfl⟩
    ·obtain ⟨_, x, h2, h3⟩ := hcell j v hj
     simp only [h2, Option.getD_some]
     exact h3.toI (fun _ h => .inl h)
  | tup l => simp [lend] at h
  | undef => simp [lend] at h
  | _ => simp only [lend, Option.some.injEq] at h; exact same (by simp [lend]) h
end Go.Proofs.YtchoafdpckknmaaDoorE
