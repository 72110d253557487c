/- Values as typed data. -/
import Derived.Test.YtchoafdpckknmaaDoorEvH
namespace Go.Proofs.YtchoafdpckknmaaDoorE
open Go
set_option linter.unusedSimpArgs false
set_option linter.unusedVariables false
variable {P : Program} {w : World} {m : Nat → Option Nat} {I O : Nat → Prop} {ρ ρ' : Pl} {H Hb : List Blk} {v v' : V} {x : Value} {FL : List Nat}

def RelVs (m : Nat → Option Nat) (I : Nat → Prop) (w : World) (ρ : Pl) (xs : List V) (ys : List Value) : Prop :=
 ys.length = xs.length ∧ ∀ (j : Nat) (v : V) (x : Value), xs[j]? = some v → ys[j]? = some x → RelV m I w ρ v x
theorem noPl_heap (hH : HRel m I O w ρ Hb) : HRel m I O w noPl Hb :=
 ⟨fun i j r h => (by cases h), fun i r h => (by cases h), fun i r h => (by cases h), hH.own, hH.imm, hH.dis, hH.tab⟩
theorem lentI_le : ∀ k, I k → lentI I ρ H FL k := fun _ h => .inl h
theorem lentI_no : ∀ k, lentI I noPl H FL k → I k := fun k h => by
 rcases h with h | ⟨i, _, _, _, h, _⟩
 ·exact h
 ·cases h

/-- what stands for one cell stands for another -/
def Good (m : Nat → Option Nat) (I : Nat → Prop) (w : World) (ρ : Pl) (H : List Blk) (FL : List Nat) (u v : V) : Prop := ∀ y, RelV m I w ρ u y → RelV m (lentI I ρ H FL) w noPl v y

theorem same_cast {a b : Sh} (h : PLift (a = b)) (l : List a.T) {ρ : Pl} {y : Value} (hx : RelV m I w ρ (.tb a l) y) : RelV m I w ρ (.tb b (Sh.cast h l)) y := by
 obtain ⟨h⟩ := h
 subst h
 exact hx

theorem ty_rel (hp : ∀ (i : Nat) (b : Blk), H[i]? = some b → Hb[i]? = some b) : ∀ n : Nat,
  (∀ (s : Sh) (l : List V) (x : s.T) (r : List V), ofCells H FL n s l = some (x, r) → ∀ ρ, HRel m I O w ρ Hb → ∃ us, l = us ++ r ∧ us.length = s.size ∧ ∀ (j : Nat) (v : V), (s.cells x)[j]? = some v → ∃ u, us[j]? = some u ∧ Good m I w ρ H FL u v) ∧
  (∀ (s : Sh) (len : Nat) (l : List V) (L : List s.T), ofRows H FL n s len l = some L → ∀ ρ, HRel m I O w ρ Hb → L.length = len ∧ ∀ (j : Nat) (v : V), (flat s L)[j]? = some v → ∃ u, l[j]? = some u ∧ Good m I w ρ H FL u v) ∧
  (∀ (s : Sh) (v : V) (L : List s.T), toL H FL n s v = some L → ∀ ρ, HRel m I O w ρ Hb → ∀ y, RelV m I w ρ v y → RelV m (lentI I ρ H FL) w ρ (.tb s L) y) := by
 intro n
 induction n with
 | zero => exact ⟨fun s l x r h => by simp [ofCells] at h, fun s len l L h => by simp [ofRows] at h, fun s v L h => by simp [toL] at h⟩
 | succ n ih =>
  obtain ⟨ihA, ihB, ihC⟩ := ih
  have one : ∀ (u v : V), (∀ y, ∀ ρ, RelV m I w ρ u y → RelV m I w noPl v y) → ∀ ρ, Good m I w ρ H FL u v := fun u v h ρ y hy => (h y ρ hy).toI lentI_le
  refine ⟨fun s l x r h ρ hH => ?_, fun s len l L h ρ hH => ?_, fun s v L h ρ hH y hy => ?_⟩
  ·cases s with
   | int k =>
    simp only [ofCells] at h
    split at h <;> try (cases h; done)
    split at h <;> try (cases h; done)
    rename_i k' z r' hk
    subst hk
    simp only [Option.some.injEq, Prod.mk.injEq] at h
    obtain ⟨rfl, rfl⟩ := h
    refine ⟨[.int k z], rfl, rfl, fun j v hv => ?_⟩
    cases j <;> simp [Sh.cells] at hv
    subst hv
    exact ⟨_, rfl, one _ _ (fun y ρ hy => hy.idf rfl _) ρ⟩
   | bool =>
    simp only [ofCells] at h
    split at h <;> try (cases h; done)
    simp only [Option.some.injEq, Prod.mk.injEq] at h
    obtain ⟨rfl, rfl⟩ := h
    refine ⟨[.bool _], rfl, rfl, fun j v hv => ?_⟩
    cases j <;> simp [Sh.cells] at hv
    subst hv
    exact ⟨_, rfl, one _ _ (fun y ρ hy => hy.idf rfl _) ρ⟩
   | str =>
    simp only [ofCells] at h
    split at h <;> try (cases h; done)
    simp only [Option.some.injEq, Prod.mk.injEq] at h
    obtain ⟨rfl, rfl⟩ := h
    refine ⟨[.str _], rfl, rfl, fun j v hv => ?_⟩
    cases j <;> simp [Sh.cells] at hv
    subst hv
    exact ⟨_, rfl, one _ _ (fun y ρ hy => hy.idf rfl _) ρ⟩
   | sl s =>
    simp only [ofCells] at h
    split at h <;> try (cases h; done)
    simp only [Option.map_eq_some_iff, Prod.mk.injEq] at h
    obtain ⟨L, h1, rfl, rfl⟩ := h
    refine ⟨[_], rfl, rfl, fun j v hv => ?_⟩
    cases j <;> simp [Sh.cells] at hv
    subst hv
    exact ⟨_, rfl, fun y hy => (ihC s _ _ h1 ρ hH y hy).idf rfl _⟩
   | pr a b =>
    simp only [ofCells, Option.bind_eq_some_iff, Option.map_eq_some_iff, Prod.mk.injEq] at h
    obtain ⟨⟨x1, r1⟩, h1, ⟨x2, r2⟩, h2, rfl, rfl⟩ := h
    obtain ⟨us1, e1, l1, g1⟩ := ihA a _ _ _ h1 ρ hH
    obtain ⟨us2, e2, l2, g2⟩ := ihA b _ _ _ h2 ρ hH
    simp only [] at e2
    refine ⟨us1 ++ us2, by rw [e1, e2, List.append_assoc], by simp [l1, l2, Sh.size], fun j v hv => ?_⟩
    simp only [Sh.cells] at hv
    rcases Nat.lt_or_ge j a.size with hj | hj
    ·rw [List.getElem?_append_left (by rw [cells_len]; exact hj)] at hv
     rw [List.getElem?_append_left (by omega)]
     exact g1 j v hv
    ·rw [List.getElem?_append_right (by rw [cells_len]; exact hj), cells_len] at hv
     rw [List.getElem?_append_right (by omega), l1]
     exact g2 _ v hv
   | st s =>
    simp only [ofCells] at h
    exact ihA s l x r h ρ hH
   | ar k => simp [ofCells] at h
   | tu s => simp [ofCells] at h
  ·cases len with
   | zero =>
    simp only [ofRows] at h
    split at h <;> try (cases h; done)
    simp only [Option.some.injEq] at h
    subst h
    exact ⟨rfl, fun j v hv => by simp [flat] at hv⟩
   | succ len =>
    simp only [ofRows, Option.bind_eq_some_iff, Option.map_eq_some_iff] at h
    obtain ⟨⟨x1, r1⟩, h1, q, h2, rfl⟩ := h
    obtain ⟨us1, e1, l1, g1⟩ := ihA s _ _ _ h1 ρ hH
    obtain ⟨hl, g2⟩ := ihB s _ _ _ h2 ρ hH
    refine ⟨by simp [hl], fun j v hv => ?_⟩
    have : flat s (x1 :: q) = s.cells x1 ++ flat s q := by simp [flat]
    rw [this] at hv
    rw [e1]
    rcases Nat.lt_or_ge j s.size with hj | hj
    ·rw [List.getElem?_append_left (by rw [cells_len]; exact hj)] at hv
     rw [List.getElem?_append_left (by omega)]
     exact g1 j v hv
    ·rw [List.getElem?_append_right (by rw [cells_len]; exact hj), cells_len] at hv
     rw [List.getElem?_append_right (by omega), l1]
     exact g2 _ v hv
  ·have empty : ∀ A, RelV m (lentI I ρ H FL) w ρ (.tb s []) (.slice A 0 0) := fun A => .mk_tb (fun _ => undef) rfl (Nat.le_refl _) (fun j v hv => by simp [flat] at hv) (fun j v hv => by simp [flat] at hv) (fun _ => rfl)
   have emptyN : ∀ (A : Addr) rc, RelV m (lentI I ρ H FL) w ρ (.tb s []) (.slice (some A) 0 rc) := fun A rc => .mk_tb (fun _ => undef) rfl (Nat.zero_le _) (fun j v hv => by simp [flat] at hv) (fun j v hv => by simp [flat] at hv) (fun h => by cases h)
   cases v <;> simp only [toL] at h <;> try (cases h; done)
   ·injection h with h; subst h
    cases hy; exact empty _
   ·injection h with h; subst h
    cases hy; exact empty _
   ·injection h with h; subst h
    cases hy; exact emptyN _ _
   ·rename_i b off len cap sz
    split at h <;> try (cases h; done)
    rename_i hFL
    split at h <;> try (cases h; done)
    rename_i hsz
    split at h <;> try (cases h; done)
    rename_i ro c hb
    split at h <;> try (cases h; done)
    rename_i hle
    have hmem : b ∈ FL := by simpa using hFL
    have hsz' : sz = s.size := by simpa using hsz
    -- whichever way the data were found
    have key : L.length = len → (∀ (j : Nat) (v : V), (flat s L)[j]? = some v → ∃ u, (c.sub off (len * sz)).get j = some u ∧ ∀ y, RelV m I w (plC c ρ) u y → RelV m (lentI I ρ H FL) w noPl v y) → RelV m (lentI I ρ H FL) w ρ (.tb s L) y := by
     intro hL hg
     cases hy with
     | sl0 =>
      have : L = [] := List.length_eq_zero_iff.1 hL
      subst this; exact empty _
     | sl1 _ _ _ _ _ _ r rc k h1 h2 h3 h4 h5 =>
      have hB := hH.at (hp _ _ hb) h1
      refine .mk_tb (fun j => (w.cell? ⟨r, off + j, none⟩).getD undef) hL.symm (by omega) (fun j v hv => ?_) (fun j v hv => ?_) (fun h => by cases h)
      ·obtain ⟨u, hu, _⟩ := hg j v hv
       obtain ⟨_, z, hz, _⟩ := hB.cell (C.get_sub hu).2
       exact ⟨r, off, rfl, .inr ⟨b, ro, c, hmem, h1, hb⟩, by rw [hz]; rfl⟩
      ·obtain ⟨u, hu, hrel⟩ := hg j v hv
       obtain ⟨_, z, hz, hr⟩ := hB.cell (C.get_sub hu).2
       simp only [hz]
       exact hrel z hr
    have rows : ofRows H FL n s len (c.sub off (len * sz)).toL = some L → RelV m (lentI I ρ H FL) w ρ (.tb s L) y := by
     intro hr
     have hpl : HRel m I O w (plC c ρ) Hb := by
      unfold plC; split
      ·exact noPl_heap hH
      ·exact hH
     obtain ⟨k1, k2⟩ := ihB s _ _ _ hr (plC c ρ) hpl
     refine key k1 (fun j v hv => ?_)
     obtain ⟨u, hu, hg⟩ := k2 j v hv
     refine ⟨u, by rw [← C.get_toL]; exact hu, fun y hy => (hg y hy).toI (fun k hk => ?_)⟩
     unfold plC at hk
     split at hk
     ·exact .inl (lentI_no k hk)
     ·exact hk
    split at h
    ·rename_i k l
     cases s <;> simp only [] at h <;> try (cases h; done)
     rename_i k'
     split at h <;> try (cases h; done)
     rename_i hk
     subst hk
     injection h with h; subst h
     have hs1 : sz = 1 := hsz'
     subst hs1
     refine key (by simp [C.len] at hle ⊢; omega) (fun j v hv => ?_)
     rw [← tbC_get] at hv
     refine ⟨v, by simpa [tbC, C.sub] using hv, fun y hy => (hy.idf ?_ _).toI lentI_le⟩
     simp only [tbC, C.get, Option.map_eq_some_iff] at hv
     obtain ⟨_, _, rfl⟩ := hv; rfl
    ·exact rows h
   ·simp only [Option.map_eq_some_iff] at h
    obtain ⟨hs, h1, rfl⟩ := h
    exact (same_cast hs _ hy).toI lentI_le

theorem toL_rel (hp : ∀ (i : Nat) (b : Blk), H[i]? = some b → Hb[i]? = some b) (hH : HRel m I O w ρ Hb) {n : Nat} {s : Sh} {L : List s.T} (h : toL H FL n s v = some L) (hx : RelV m I w ρ v x) : RelV m (lentI I ρ H FL) w ρ (.tb s L) x :=
 (ty_rel hp n).2.2 s v L h ρ hH x hx

theorem st_rel {ρ' : Pl} (hp : ∀ (i : Nat) (b : Blk), H[i]? = some b → Hb[i]? = some b) (hH : HRel m I O w ρ Hb) {n : Nat} {s : Sh} {c : C} {p : s.T × List V} (h : ofCells H FL n s c.toL = some p) (he : p.2.isEmpty = true) (hx : RelV m I w ρ (.agg c) x) : RelV m (lentI I ρ H FL) w ρ' (.agg (.vals (s.cells p.1))) x := by
 obtain ⟨z, r⟩ := p
 have : r = [] := by simpa using he
 subst this
 cases hx with
 | agg _ _ cs hs hc hf =>
  have hpl : HRel m I O w (plC c ρ) Hb := by
   unfold plC; split
   ·exact noPl_heap hH
   ·exact hH
  obtain ⟨us, e, hl, hg⟩ := (ty_rel (FL := FL) hp n).1 s _ _ _ h (plC c ρ) hpl
  rw [List.append_nil] at e
  refine .agg _ _ _ ?_ (fun j v hv => (cells_cell s z v (List.mem_of_getElem? hv)).1) (fun j v x hv hx => ?_)
  ·show cs.size = (s.cells z).length
   rw [hs, cells_len, ← C.len_toL, e, hl]
  ·obtain ⟨u, hu, hgo⟩ := hg j v hv
   rw [← e, C.get_toL] at hu
   have h1 := hgo x (hf j u x hu hx)
   refine RelV.toI (h1.idf (cells_cell s z v (List.mem_of_getElem? hv)).2 _) (fun k hk => ?_)
   unfold plC at hk
   split at hk
   ·exact .inl (lentI_no k hk)
   ·exact hk
theorem toInts_eq {k : IntKind} : ∀ {vs : List V} {l : List Int}, C.toInts k vs = some l → vs = l.map (V.int k)
 | [], l, h => by simp [C.toInts] at h; subst h; rfl
 | a :: vs, l, h => by
  cases a <;> simp only [C.toInts] at h <;> try (cases h; done)
  split at h <;> try (cases h; done)
  rename_i e; subst e
  simp only [Option.map_eq_some_iff] at h
  obtain ⟨t, ht, rfl⟩ := h
  rw [toInts_eq ht]; rfl
theorem ar_rel {c : C} {k : IntKind} {l : List Int} (h : C.toInts k c.toL = some l) (hx : RelV m I w ρ (.agg c) x) : RelV m (lentI I ρ H FL) w ρ' (.agg (.ints k l)) x := by
 have hl := toInts_eq h
 cases hx with
 | agg _ _ cs hs hc hf =>
  have get : ∀ (j : Nat) (v : V), (C.ints k l).get j = some v → c.get j = some v := fun j v hv => by
   rw [← C.get_toL, hl, List.getElem?_map]; exact hv
  refine .agg _ _ _ ?_ (fun j v hv => hc j v (get j v hv)) (fun j v x hv hx => ?_)
  ·show cs.size = l.length
   rw [hs, ← C.len_toL, hl]; simp
  ·have h1 := hf j v x (get j v hv) hx
   simp only [C.get, Option.map_eq_some_iff] at hv
   obtain ⟨n, _, rfl⟩ := hv
   exact (h1.idf rfl _).toI lentI_le

theorem toInts_ints (k : IntKind) : ∀ l : List Int, C.toInts k (C.ints k l).toL = some l
 | [] => rfl
 | a :: l => by
  have := toInts_ints k l
  simp only [C.toL, List.map_cons, C.toInts, if_true] at this ⊢
  rw [this]; rfl
theorem toInt_rel {k : IntKind} {n : Int} (h : toInt k v = some n) (hx : RelV m I w ρ v x) : RelV m (lentI I ρ H FL) w ρ' (.int k n) x := by
 unfold toInt at h
 split at h <;> try (cases h; done)
 split at h <;> try (cases h; done)
 rename_i hk
 subst hk
 injection h with h; subst h
 exact (hx.idf rfl _).toI lentI_le

theorem encs_plain {s : Sh} (h : s.plain = true) (x : s.T) : s.encs x = [s.enc x] := by
 cases s <;> first | rfl | cases h
theorem toTs_plain {s : Sh} (h : s.plain = true) {l : List V} {x : s.T} (ht : toTs H FL s l = some x) : ∃ v, l = [v] ∧ toT H FL s v = some x := by
 cases s <;> simp only [Sh.plain, Bool.false_eq_true] at h <;> simp only [toTs] at ht <;> (split at ht <;> try (cases ht; done)) <;> first | exact ⟨_, rfl, ht⟩ | exact ⟨_, rfl, by simp only [toT]; exact ht⟩ | skip
 all_goals
  rename_i c hc
  refine ⟨_, rfl, ?_⟩
  simp only [toT]
  split
  ·rename_i heq; injection heq with heq; exact absurd heq (hc _ _)
  ·rename_i heq; injection heq with heq; subst heq; exact ht
  ·rename_i h1 h2; exact absurd rfl (h2 _)
theorem enc_rel (hp : ∀ (i : Nat) (b : Blk), H[i]? = some b → Hb[i]? = some b) (hH : HRel m I O w ρ Hb) : ∀ (s : Sh),
  (∀ (v : V) (z : s.T) (x : Value), toT H FL s v = some z → RelV m I w ρ v x → RelV m (lentI I ρ H FL) w ρ' (s.enc z) x) ∧
  (∀ (l : List V) (z : s.T), toTs H FL s l = some z → l.length = (s.encs z).length ∧ ∀ (j : Nat) (v : V), (s.encs z)[j]? = some v → ∃ u, l[j]? = some u ∧ ∀ y, RelV m I w ρ u y → RelV m (lentI I ρ H FL) w ρ' v y) := by
 have pl : ∀ (s : Sh), s.plain = true → (∀ (v : V) (z : s.T) (x : Value), toT H FL s v = some z → RelV m I w ρ v x → RelV m (lentI I ρ H FL) w ρ' (s.enc z) x) →
   (∀ (l : List V) (z : s.T), toTs H FL s l = some z → l.length = (s.encs z).length ∧ ∀ (j : Nat) (v : V), (s.encs z)[j]? = some v → ∃ u, l[j]? = some u ∧ ∀ y, RelV m I w ρ u y → RelV m (lentI I ρ H FL) w ρ' v y) := by
  intro s hs h1 l z hz
  obtain ⟨v, rfl, hv⟩ := toTs_plain hs hz
  rw [encs_plain hs]
  refine ⟨rfl, fun j u hu => ?_⟩
  cases j <;> simp at hu
  subst hu
  exact ⟨v, rfl, fun y hy => h1 v z y hv hy⟩
 intro s
 induction s with
 | int k =>
  have h1 : ∀ (v : V) (z : (Sh.int k).T) (x : Value), toT H FL (.int k) v = some z → RelV m I w ρ v x → RelV m (lentI I ρ H FL) w ρ' ((Sh.int k).enc z) x := fun v z x h hx => toInt_rel h hx
  exact ⟨h1, pl _ rfl h1⟩
 | bool =>
  have h1 : ∀ (v : V) (z : Sh.bool.T) (x : Value), toT H FL .bool v = some z → RelV m I w ρ v x → RelV m (lentI I ρ H FL) w ρ' (Sh.bool.enc z) x := fun v z x h hx => by
   simp only [toT] at h
   split at h <;> try (cases h; done)
   injection h with h; subst h
   exact (hx.idf rfl _).toI lentI_le
  exact ⟨h1, pl _ rfl h1⟩
 | str =>
  have h1 : ∀ (v : V) (z : Sh.str.T) (x : Value), toT H FL .str v = some z → RelV m I w ρ v x → RelV m (lentI I ρ H FL) w ρ' (Sh.str.enc z) x := fun v z x h hx => by
   simp only [toT] at h
   split at h <;> try (cases h; done)
   injection h with h; subst h
   exact (hx.idf rfl _).toI lentI_le
  exact ⟨h1, pl _ rfl h1⟩
 | sl s _ =>
  have h1 : ∀ (v : V) (z : (Sh.sl s).T) (x : Value), toT H FL (.sl s) v = some z → RelV m I w ρ v x → RelV m (lentI I ρ H FL) w ρ' ((Sh.sl s).enc z) x := fun v z x h hx => (toL_rel hp hH h hx).tb_any _
  exact ⟨h1, pl _ rfl h1⟩
 | ar k =>
  have h1 : ∀ (v : V) (z : (Sh.ar k).T) (x : Value), toT H FL (.ar k) v = some z → RelV m I w ρ v x → RelV m (lentI I ρ H FL) w ρ' ((Sh.ar k).enc z) x := fun v z x h hx => by
   simp only [toT] at h
   split at h <;> try (cases h; done)
   ·split at h <;> try (cases h; done)
    rename_i hk; subst hk
    injection h with h; subst h
    exact ar_rel (toInts_ints _ _) hx
   ·exact ar_rel h hx
  exact ⟨h1, pl _ rfl h1⟩
 | st s _ =>
  have h1 : ∀ (v : V) (z : (Sh.st s).T) (x : Value), toT H FL (.st s) v = some z → RelV m I w ρ v x → RelV m (lentI I ρ H FL) w ρ' ((Sh.st s).enc z) x := fun v z x h hx => by
   simp only [toT] at h
   split at h <;> try (cases h; done)
   simp only [Option.bind_eq_some_iff] at h
   obtain ⟨p, h2, h3⟩ := h
   split at h3 <;> try (cases h3; done)
   rename_i he
   injection h3 with h3; subst h3
   exact st_rel hp hH h2 he hx
  exact ⟨h1, pl _ rfl h1⟩
 | pr a b iha ihb =>
  refine ⟨fun v z x h => by simp [toT] at h, fun l z h => ?_⟩
  simp only [toTs] at h
  split at h <;> try (cases h; done)
  rename_i v r
  simp only [Option.bind_eq_some_iff, Option.map_eq_some_iff] at h
  obtain ⟨z1, h1, z2, h2, rfl⟩ := h
  obtain ⟨k1, k2⟩ := ihb.2 _ _ h2
  refine ⟨by simp [Sh.encs, k1], fun j u hu => ?_⟩
  cases j with
  | zero => simp [Sh.encs] at hu; subst hu; exact ⟨v, rfl, fun y hy => iha.1 v z1 y h1 hy⟩
  | succ j => simp only [Sh.encs, List.getElem?_cons_succ] at hu; exact k2 j u hu
 | tu s ih =>
  refine ⟨fun v z x h hx => ?_, fun l z h => by simp [toTs] at h⟩
  simp only [toT] at h
  split at h <;> try (cases h; done)
  obtain ⟨k1, k2⟩ := ih.2 _ _ h
  cases hx with
  | tup _ _ vs hs hf =>
   refine .tup _ _ _ (by rw [hs, k1]) (fun j v x hv hx => ?_)
   obtain ⟨u, hu, hg⟩ := k2 j v hv
   exact hg x (hf j u x hu hx)
theorem toT_rel (hp : ∀ (i : Nat) (b : Blk), H[i]? = some b → Hb[i]? = some b) (hH : HRel m I O w ρ Hb) {s : Sh} {z : s.T} (h : toT H FL s v = some z) (hx : RelV m I w ρ v x) : RelV m (lentI I ρ H FL) w ρ' (s.enc z) x :=
 (enc_rel hp hH s).1 v z x h hx

/-! ### data name no block -/
theorem ren_idf {g : Nat → Option Nat} {n : Nat} (h : v.idf = true) : ren g (n + 1) v = some v := by
 cases v <;> simp only [V.idf, Bool.false_eq_true] at h <;> first | rfl | skip
 rename_i f caps
 cases caps with
 | nil => simp [ren]
 | cons a l => simp [V.idf] at h
theorem mapM_same {α : Type} {f : α → Option α} : ∀ {l : List α}, (∀ a ∈ l, f a = some a) → l.mapM f = some l
 | [], _ => rfl
 | a :: l, h => by
  have ih : l.mapM f = some l := mapM_same (fun b hb => h b (List.mem_cons_of_mem _ hb))
  simp only [List.mapM_cons, h a (by simp), ih, Option.bind_eq_bind, Option.bind_some, Option.pure_def]
theorem ren_plain {g : Nat → Option Nat} {n : Nat} {s : Sh} (h : s.plain = true) (z : s.T) : ren g (n + 2) (s.enc z) = some (s.enc z) := by
 cases s <;> first | rfl | cases h | skip
 rename_i s
 show ((s.cells z).mapM (ren g (n + 1))).map (fun l => V.agg (C.vals l)) = _
 rw [mapM_same (fun a ha => ren_idf (cells_cell s z a ha).2)]
 rfl
/-- no tuple within a tuple -/
def flatSh : Sh → Bool
 | .pr a b => a.plain && flatSh b
 | .tu _ => false
 | _ => true
def okSh : Sh → Bool
 | .tu s => flatSh s
 | .pr _ _ => false
 | _ => true
theorem flat_encs {g : Nat → Option Nat} {n : Nat} : ∀ (s : Sh) (z : s.T), flatSh s = true → ∀ v ∈ s.encs z, ren g (n + 2) v = some v := by
 intro s
 induction s with
 | pr a b iha ihb =>
  intro z h v hv
  simp only [flatSh, Bool.and_eq_true] at h
  simp only [Sh.encs, List.mem_cons] at hv
  rcases hv with rfl | hv
  ·exact ren_plain h.1 _
  ·exact ihb _ h.2 v hv
 | tu s _ => intro z h; cases h
 | _ =>
  intro z h v hv
  rw [encs_plain rfl] at hv
  simp only [List.mem_singleton] at hv
  subst hv
  exact ren_plain rfl z
theorem ren_enc {g : Nat → Option Nat} {n : Nat} {s : Sh} (h : okSh s = true) (z : s.T) : ren g (n + 3) (s.enc z) = some (s.enc z) := by
 by_cases hp : s.plain = true
 ·exact ren_plain hp z
 ·cases s <;> simp [Sh.plain] at hp
  ·cases h
  ·rename_i s
   show ((s.encs z).mapM (ren g (n + 2))).map V.tup = _
   rw [mapM_same (fun a ha => flat_encs s z h a ha)]
   rfl
theorem typed_ren {g : Nat → Option Nat} : ∀ {S : List Sh} {l ys : List V}, typed H FL S l = some ys → ys.mapM (ren g deep) = some ys
 | [], [], ys, h => by simp [typed] at h; subst h; rfl
 | [], _ :: _, ys, h => by simp [typed] at h
 | s :: S, [], ys, h => by simp [typed] at h
 | s :: S, v :: l, ys, h => by
  simp only [typed] at h
  split at h <;> try (cases h; done)
  rename_i hp
  have hp : s.plain = true := by simpa using hp
  simp only [Option.bind_eq_some_iff, Option.map_eq_some_iff] at h
  obtain ⟨x, h1, r, h2, rfl⟩ := h
  have ih := typed_ren (g := g) h2
  simp only [List.mapM_cons, ih, Option.bind_eq_bind, Option.pure_def]
  rw [show deep = 10 + 2 from rfl, ren_plain hp]; rfl
theorem typed_rel (hp : ∀ (i : Nat) (b : Blk), H[i]? = some b → Hb[i]? = some b) (hH : HRel m I O w ρ Hb) : ∀ {S : List Sh} {l ys : List V} {xs : List Value}, typed H FL S l = some ys → RelVs m I w ρ l xs → RelVs m (lentI I ρ H FL) w ρ ys xs
 | [], [], ys, xs, h, hx => by simp [typed] at h; subst h; exact ⟨hx.1, fun j v x hv => by simp at hv⟩
 | [], _ :: _, ys, xs, h, _ => by simp [typed] at h
 | s :: S, [], ys, xs, h, _ => by simp [typed] at h
 | s :: S, v :: l, ys, xs, h, hx => by
  simp only [typed] at h
  split at h <;> try (cases h; done)
  simp only [Option.bind_eq_some_iff, Option.map_eq_some_iff] at h
  obtain ⟨z, h1, r, h2, rfl⟩ := h
  cases xs with
  | nil => simp [RelVs] at hx
  | cons x xs =>
   have h3 : RelVs m I w ρ l xs := ⟨by simpa using hx.1, fun j a b ha hb => hx.2 (j + 1) a b (by simpa using ha) (by simpa using hb)⟩
   have ih := typed_rel hp hH h2 h3
   refine ⟨by simp [ih.1], fun j a b ha hb => ?_⟩
   cases j with
   | zero => simp at ha hb; subst ha; subst hb; exact toT_rel hp hH h1 (hx.2 0 _ _ rfl rfl)
   | succ j => exact ih.2 j a b (by simpa using ha) (by simpa using hb)
end Go.Proofs.YtchoafdpckknmaaDoorE
