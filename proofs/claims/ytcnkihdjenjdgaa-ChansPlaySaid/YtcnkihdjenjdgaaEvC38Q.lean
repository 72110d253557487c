/- Chapter 38, ChansPlay: relays, the loops, the law. Printed by gen/c38p.py. -/
import Derived.Test.YtcnkihdjenjdgaaEvC38P
namespace Go.Proofs.YtcnkihdjenjdgaaE
open Go
set_option linter.unusedSimpArgs false
set_option linter.unusedVariables false
set_option maxRecDepth 4000

abbrev XX : Type := Unit × (Unit × (Unit × (Unit × (Unit × (Unit × (Unit × (Unit × (Unit × (Unit × (Unit × (Unit × (Unit × (Unit × (Unit × (Unit × (Unit × (Unit × (Unit × (Unit × (Unit × (Unit × (Unit × (Unit × (Unit × (Unit × (Unit × (Unit × (Unit × (Unit × (Unit × (Unit × (Unit × ((List Int) × (Int × (Int × (Int × ((List Int) × (Int × (Int × (Int × (Bool × Unit)))))))))))))))))))))))))))))))))))))))))
def uu (x : XX) : Cc := (x.2.2.2.2.2.2.2.2.2.2.2.2.2.2.2.2.2.2.2.2.2.2.2.2.2.2.2.2.2.2.2.2.2.1, (x.2.2.2.2.2.2.2.2.2.2.2.2.2.2.2.2.2.2.2.2.2.2.2.2.2.2.2.2.2.2.2.2.2.2.1, (x.2.2.2.2.2.2.2.2.2.2.2.2.2.2.2.2.2.2.2.2.2.2.2.2.2.2.2.2.2.2.2.2.2.2.2.1, (x.2.2.2.2.2.2.2.2.2.2.2.2.2.2.2.2.2.2.2.2.2.2.2.2.2.2.2.2.2.2.2.2.2.2.2.2.1, (x.2.2.2.2.2.2.2.2.2.2.2.2.2.2.2.2.2.2.2.2.2.2.2.2.2.2.2.2.2.2.2.2.2.2.2.2.2.1, (x.2.2.2.2.2.2.2.2.2.2.2.2.2.2.2.2.2.2.2.2.2.2.2.2.2.2.2.2.2.2.2.2.2.2.2.2.2.2.1, (x.2.2.2.2.2.2.2.2.2.2.2.2.2.2.2.2.2.2.2.2.2.2.2.2.2.2.2.2.2.2.2.2.2.2.2.2.2.2.2.1, (x.2.2.2.2.2.2.2.2.2.2.2.2.2.2.2.2.2.2.2.2.2.2.2.2.2.2.2.2.2.2.2.2.2.2.2.2.2.2.2.2.1, (x.2.2.2.2.2.2.2.2.2.2.2.2.2.2.2.2.2.2.2.2.2.2.2.2.2.2.2.2.2.2.2.2.2.2.2.2.2.2.2.2.2.1)))))))))
theorem uu_xx (c : Cc) : uu (xx c) = c := rfl
theorem bif_t {α : Type} {c : Bool} {a b : α} (h : c = true) : (bif c then a else b) = a := by rw [h, cond_true]
theorem bif_f {α : Type} {c : Bool} {a b : α} (h : c = false) : (bif c then a else b) = b := by rw [h, cond_false]
def wb (c : Cc) (w : Int) : List Int := if w = 0 then c.1 else c.2.2.2.2.1
def h90 : D90v0 := p90v0 h111 f108 0
theorem Q90v0 : REntOK FT XT 90 (rn90v0 h90) := ok90v0 h111 f108 E108 R111 fun _ _ _ _ _ _ _ _ _ _ _ h => ⟨0, h⟩
theorem Q90v1 : REntOK FT XT 90 (rn90v1 h90) := ok90v1 h111 f108 E108 R111 fun _ _ _ _ _ _ _ _ _ _ _ h => ⟨0, h⟩
def h91 : D91v0 := p91v0 h90 0
theorem Q91v0 : REntOK FT XT 91 (rn91v0 h91) := ok91v0 h90 Q90v0 fun _ _ _ _ _ _ _ _ _ _ _ h => ⟨0, h⟩
theorem Q91v1 : REntOK FT XT 91 (rn91v1 h91) := ok91v1 h90 Q90v1 fun _ _ _ _ _ _ _ _ _ _ _ h => ⟨0, h⟩
theorem e90_0 (b0 : List Int) (p0 t0 l0 : Int) (b1 : List Int) (p1 t1 l1 : Int) (s : Bool) : h90 0 b0 p0 t0 l0 b1 p1 t1 l1 s = match f108 b0 with
  | none => none
  | some r => bif decide (0 + List.length r * 1 ≤ List.length r) then some ((List.take (List.length r) (List.drop 0 r), ()), (xx (b0, (p0, (t0, (l0, (b1, (p1, (t1, (l1, s)))))))), ())) else none := by kernel_rfl
theorem h91_0 {c : Cc} (hc : okC c) : h91 0 c.1 c.2.1 c.2.2.1 c.2.2.2.1 c.2.2.2.2.1 c.2.2.2.2.2.1 c.2.2.2.2.2.2.1 c.2.2.2.2.2.2.2.1 c.2.2.2.2.2.2.2.2 = some (((((wb c 0).length : Nat) : Int), ()), (xx c, ())) := by
  obtain ⟨b0, p0, t0, l0, b1, p1, t1, l1, s⟩ := c
  obtain ⟨h1, h2⟩ := hc
  simp only [] at h1 h2
  have e : h90 0 b0 p0 t0 l0 b1 p1 t1 l1 s = some ((b0, ()), (xx (b0, (p0, (t0, (l0, (b1, (p1, (t1, (l1, s)))))))), ())) := by
    rw [e90_0, f108_is (by omega)]
    simp only []
    rw [decide_eq_true (by omega), cond_true, List.drop_zero, List.take_length]
  unfold h91 p91v0
  simp only []
  rw [e]
  rfl
theorem e90_1 (b0 : List Int) (p0 t0 l0 : Int) (b1 : List Int) (p1 t1 l1 : Int) (s : Bool) : h90 1 b0 p0 t0 l0 b1 p1 t1 l1 s = match f108 b1 with
  | none => none
  | some r => bif decide (0 + List.length r * 1 ≤ List.length r) then some ((List.take (List.length r) (List.drop 0 r), ()), (xx (b0, (p0, (t0, (l0, (b1, (p1, (t1, (l1, s)))))))), ())) else none := by kernel_rfl
theorem h91_1 {c : Cc} (hc : okC c) : h91 1 c.1 c.2.1 c.2.2.1 c.2.2.2.1 c.2.2.2.2.1 c.2.2.2.2.2.1 c.2.2.2.2.2.2.1 c.2.2.2.2.2.2.2.1 c.2.2.2.2.2.2.2.2 = some (((((wb c 1).length : Nat) : Int), ()), (xx c, ())) := by
  obtain ⟨b0, p0, t0, l0, b1, p1, t1, l1, s⟩ := c
  obtain ⟨h1, h2⟩ := hc
  simp only [] at h1 h2
  have e : h90 1 b0 p0 t0 l0 b1 p1 t1 l1 s = some ((b1, ()), (xx (b0, (p0, (t0, (l0, (b1, (p1, (t1, (l1, s)))))))), ())) := by
    rw [e90_1, f108_is (by omega)]
    simp only []
    rw [decide_eq_true (by omega), cond_true, List.drop_zero, List.take_length]
  unfold h91 p91v0
  simp only []
  rw [e]
  rfl
def h92 : D92v0 := p92v0 h111 h91 h88 h86 0
theorem Q92v0 : REntOK FT XT 92 (rn92v0 h92) := ok92v0 h111 h91 h88 h86 R111 Q91v0 Q88v1 Q86v2 fun _ _ _ _ _ _ _ _ _ _ _ _ _ _ _ _ _ _ _ _ _ _ h => ⟨0, h⟩
theorem Q92v2 : REntOK FT XT 92 (rn92v2 h92) := ok92v2 h111 h91 h88 h86 R111 Q91v1 Q88v2 Q86v1 fun _ _ _ _ _ _ _ _ _ _ _ _ _ _ _ _ _ _ _ _ _ _ h => ⟨0, h⟩
def h92s : D92v1 := p92v1 h111 h91 h88 h86 0
theorem Q92v1 : REntOK FT XT 92 (rn92v1 h92s) := ok92v1 h111 h91 h88 h86 R111 Q91v1 Q88v2 Q86v2 fun _ _ _ _ _ _ _ _ _ _ _ _ _ h => ⟨0, h⟩
theorem Q92v3 : REntOK FT XT 92 (rn92v3 h92s) := ok92v3 h111 h91 h88 h86 R111 Q91v0 Q88v1 Q86v1 fun _ _ _ _ _ _ _ _ _ _ _ _ _ h => ⟨0, h⟩
def h97 : D97v0 := p97v0 0
theorem Q97v0 : REntOK FT XT 97 (rn97v0 h97) := ok97v0 fun _ _ _ _ _ _ _ _ _ _ h => ⟨0, h⟩
theorem Q97v1 : REntOK FT XT 97 (rn97v1 h97) := ok97v1 fun _ _ _ _ _ _ _ _ _ _ h => ⟨0, h⟩
def h99 : D99v2 := p99v2 0
theorem Q99v2 : REntOK FT XT 99 (rn99v2 h99) := ok99v2 fun _ _ _ _ _ _ _ _ _ _ h => ⟨0, h⟩
def f84 : Option Bool := some true
theorem E84 : EntOK FT XT 84 (en84 f84) := ok84 h86 h88 f108 h99 E108 Q86v6 Q88v5 Q99v2 fun r h => ⟨0, by rw [← h]; kernel_rfl⟩
/-! ### relays -/
def sRel (c d : Cc) (w o n : Int) : (Cc × Cc) × Int × Int :=
  if ¬ (w = 0 ∨ w = 1) then ((c, d), (0, 1)) else if ¬ (o = 0 ∨ o = 1) then ((c, d), (0, 1)) else if n < 0 then ((c, d), (0, 1)) else if d.2.2.2.2.2.2.2.2 = true then ((c, d), (0, 11)) else if 65536 < (wb d o).length + cutN (wb c w) n then ((c, d), (0, 12)) else (((sTake c w n).1, (sPut d o (sTake c w n).2.1).1), ((((sTake c w n).2.1.length : Nat) : Int), 0))
def sRel1 (c : Cc) (w o n : Int) : Cc × Int × Int :=
  if ¬ (w = 0 ∨ w = 1) then (c, (0, 1)) else if ¬ (o = 0 ∨ o = 1) then (c, (0, 1)) else if n < 0 then (c, (0, 1)) else if w = o then (c, (0, 1)) else if c.2.2.2.2.2.2.2.2 = true then (c, (0, 11)) else if 65536 < (wb c o).length + cutN (wb c w) n then (c, (0, 12)) else ((sPut (sTake c w n).1 o (sTake c w n).2.1).1, ((((sTake c w n).2.1.length : Nat) : Int), 0))
theorem sRel_ok {c d : Cc} {w o n : Int} (hc : okC c) (hd : okC d) : okC (sRel c d w o n).1.1 ∧ okC (sRel c d w o n).1.2 := by
  unfold sRel
  repeat' split
  all_goals first | exact ⟨hc, hd⟩ | exact ⟨sTake_ok hc, sPut_ok hd⟩
theorem sRel1_ok {c : Cc} {w o n : Int} (hc : okC c) : okC (sRel1 c w o n).1 := by
  unfold sRel1
  repeat' split
  all_goals first | exact hc | exact sPut_ok (sTake_ok hc)
theorem sTake_len {c : Cc} {w n : Int} (hw : w = 0 ∨ w = 1) (hn : ¬ n < 0) : (sTake c w n).2.1.length = cutN (wb c w) n := by
  rcases hw with rfl | rfl
  · unfold sTake wb; rw [if_pos rfl, if_neg hn, if_pos rfl]; exact take_len
  · unfold sTake wb; rw [if_neg (by decide), if_pos rfl, if_neg hn, if_neg (by decide)]; exact take_len
theorem sTake_err {c : Cc} {w n : Int} (hw : w = 0 ∨ w = 1) (hn : ¬ n < 0) : (sTake c w n).2.2 = 0 := by
  rcases hw with rfl | rfl
  · unfold sTake; rw [if_pos rfl, if_neg hn]
  · unfold sTake; rw [if_neg (by decide), if_pos rfl, if_neg hn]
theorem sPut_err {d : Cc} {o : Int} {b : List Int} (ho : o = 0 ∨ o = 1) (hs : d.2.2.2.2.2.2.2.2 = false) (h : ¬ 65536 < (wb d o).length + b.length) : (sPut d o b).2 = 0 := by
  rcases ho with rfl | rfl
  · unfold sPut; unfold wb at h; rw [if_pos rfl] at h; rw [if_pos rfl, if_neg (by rw [hs]; decide), if_neg h]
  · unfold sPut; unfold wb at h; rw [if_neg (by decide)] at h; rw [if_neg (by decide), if_pos rfl, if_neg (by rw [hs]; decide), if_neg h]
theorem wb_le {c : Cc} {w : Int} (hc : okC c) : (wb c w).length ≤ 65536 := by
  unfold wb; split
  · exact hc.1
  · exact hc.2
theorem sTake_wb {c : Cc} {w o n : Int} (hw : w = 0 ∨ w = 1) (ho : o = 0 ∨ o = 1) (hn : ¬ n < 0) (h : ¬ w = o) : wb (sTake c w n).1 o = wb c o := by
  rcases hw with rfl | rfl <;> rcases ho with rfl | rfl
  · exact absurd rfl h
  · unfold wb sTake; rw [if_neg (by decide), if_pos rfl, if_neg hn, if_neg (by decide)]
  · unfold wb sTake; rw [if_pos rfl, if_neg (by decide), if_pos rfl, if_neg hn, if_pos rfl]
  · exact absurd rfl h
theorem sTake_shut {c : Cc} {w n : Int} : (sTake c w n).1.2.2.2.2.2.2.2.2 = c.2.2.2.2.2.2.2.2 := by
  unfold sTake
  split
  · split <;> rfl
  · split
    · split <;> rfl
    · rfl
theorem e92_00 (n : Int) (b0 : List Int) (p0 t0 l0 : Int) (b1 : List Int) (p1 t1 l1 : Int) (s : Bool) (b2 : List Int) (p2 t2 l2 : Int) (b3 : List Int) (p3 t3 l3 : Int) (z : Bool) : h92 0 0 n b0 p0 t0 l0 b1 p1 t1 l1 s b2 p2 t2 l2 b3 p3 t3 l3 z = bif decide (n < 0) then some ((((0 : Int), ((1 : Int), ())), ()), (xx (b0, (p0, (t0, (l0, (b1, (p1, (t1, (l1, s)))))))), (xx (b2, (p2, (t2, (l2, (b3, (p3, (t3, (l3, z)))))))), ()))) else match h91 0 b0 p0 t0 l0 b1 p1 t1 l1 s with
  | none => none
  | some r => bif z then some ((((0 : Int), ((11 : Int), ())), ()), (r.2.1, (xx (b2, (p2, (t2, (l2, (b3, (p3, (t3, (l3, z)))))))), ()))) else bif decide (iadd .i64 ((b2.length : Nat) : Int) (if r.1.1 < n then r.1.1 else n) > 65536) then some ((((0 : Int), ((12 : Int), ())), ()), (r.2.1, (xx (b2, (p2, (t2, (l2, (b3, (p3, (t3, (l3, z)))))))), ()))) else match h88 0 n (r.2.1.2.2.2.2.2.2.2.2.2.2.2.2.2.2.2.2.2.2.2.2.2.2.2.2.2.2.2.2.2.2.2.2.2.1) (r.2.1.2.2.2.2.2.2.2.2.2.2.2.2.2.2.2.2.2.2.2.2.2.2.2.2.2.2.2.2.2.2.2.2.2.2.1) (r.2.1.2.2.2.2.2.2.2.2.2.2.2.2.2.2.2.2.2.2.2.2.2.2.2.2.2.2.2.2.2.2.2.2.2.2.2.1) (r.2.1.2.2.2.2.2.2.2.2.2.2.2.2.2.2.2.2.2.2.2.2.2.2.2.2.2.2.2.2.2.2.2.2.2.2.2.2.1) (r.2.1.2.2.2.2.2.2.2.2.2.2.2.2.2.2.2.2.2.2.2.2.2.2.2.2.2.2.2.2.2.2.2.2.2.2.2.2.2.1) (r.2.1.2.2.2.2.2.2.2.2.2.2.2.2.2.2.2.2.2.2.2.2.2.2.2.2.2.2.2.2.2.2.2.2.2.2.2.2.2.2.1) (r.2.1.2.2.2.2.2.2.2.2.2.2.2.2.2.2.2.2.2.2.2.2.2.2.2.2.2.2.2.2.2.2.2.2.2.2.2.2.2.2.2.1) (r.2.1.2.2.2.2.2.2.2.2.2.2.2.2.2.2.2.2.2.2.2.2.2.2.2.2.2.2.2.2.2.2.2.2.2.2.2.2.2.2.2.2.1) (r.2.1.2.2.2.2.2.2.2.2.2.2.2.2.2.2.2.2.2.2.2.2.2.2.2.2.2.2.2.2.2.2.2.2.2.2.2.2.2.2.2.2.2.1) with
    | none => none
    | some q => bif (q.1.1.2.1 != (0 : Int)) then some ((((0 : Int), (q.1.1.2.1, ())), ()), (q.2.1, (xx (b2, (p2, (t2, (l2, (b3, (p3, (t3, (l3, z)))))))), ()))) else match h86 0 q.1.1.1 b2 p2 t2 l2 b3 p3 t3 l3 z with
      | none => none
      | some y => some (((((q.1.1.1.length : Nat) : Int), (y.1.1, ())), ()), (q.2.1, (y.2.1, ()))) := by kernel_rfl
theorem e92s_00 (n : Int) (b0 : List Int) (p0 t0 l0 : Int) (b1 : List Int) (p1 t1 l1 : Int) (s : Bool) : h92s 0 0 n b0 p0 t0 l0 b1 p1 t1 l1 s = bif decide (n < 0) then some ((((0 : Int), ((1 : Int), ())), ()), (xx (b0, (p0, (t0, (l0, (b1, (p1, (t1, (l1, s)))))))), ())) else some ((((0 : Int), ((1 : Int), ())), ()), (xx (b0, (p0, (t0, (l0, (b1, (p1, (t1, (l1, s)))))))), ())) := by kernel_rfl
theorem e92_01 (n : Int) (b0 : List Int) (p0 t0 l0 : Int) (b1 : List Int) (p1 t1 l1 : Int) (s : Bool) (b2 : List Int) (p2 t2 l2 : Int) (b3 : List Int) (p3 t3 l3 : Int) (z : Bool) : h92 0 1 n b0 p0 t0 l0 b1 p1 t1 l1 s b2 p2 t2 l2 b3 p3 t3 l3 z = bif decide (n < 0) then some ((((0 : Int), ((1 : Int), ())), ()), (xx (b0, (p0, (t0, (l0, (b1, (p1, (t1, (l1, s)))))))), (xx (b2, (p2, (t2, (l2, (b3, (p3, (t3, (l3, z)))))))), ()))) else match h91 0 b0 p0 t0 l0 b1 p1 t1 l1 s with
  | none => none
  | some r => bif z then some ((((0 : Int), ((11 : Int), ())), ()), (r.2.1, (xx (b2, (p2, (t2, (l2, (b3, (p3, (t3, (l3, z)))))))), ()))) else bif decide (iadd .i64 ((b3.length : Nat) : Int) (if r.1.1 < n then r.1.1 else n) > 65536) then some ((((0 : Int), ((12 : Int), ())), ()), (r.2.1, (xx (b2, (p2, (t2, (l2, (b3, (p3, (t3, (l3, z)))))))), ()))) else match h88 0 n (r.2.1.2.2.2.2.2.2.2.2.2.2.2.2.2.2.2.2.2.2.2.2.2.2.2.2.2.2.2.2.2.2.2.2.2.1) (r.2.1.2.2.2.2.2.2.2.2.2.2.2.2.2.2.2.2.2.2.2.2.2.2.2.2.2.2.2.2.2.2.2.2.2.2.1) (r.2.1.2.2.2.2.2.2.2.2.2.2.2.2.2.2.2.2.2.2.2.2.2.2.2.2.2.2.2.2.2.2.2.2.2.2.2.1) (r.2.1.2.2.2.2.2.2.2.2.2.2.2.2.2.2.2.2.2.2.2.2.2.2.2.2.2.2.2.2.2.2.2.2.2.2.2.2.1) (r.2.1.2.2.2.2.2.2.2.2.2.2.2.2.2.2.2.2.2.2.2.2.2.2.2.2.2.2.2.2.2.2.2.2.2.2.2.2.2.1) (r.2.1.2.2.2.2.2.2.2.2.2.2.2.2.2.2.2.2.2.2.2.2.2.2.2.2.2.2.2.2.2.2.2.2.2.2.2.2.2.2.1) (r.2.1.2.2.2.2.2.2.2.2.2.2.2.2.2.2.2.2.2.2.2.2.2.2.2.2.2.2.2.2.2.2.2.2.2.2.2.2.2.2.2.1) (r.2.1.2.2.2.2.2.2.2.2.2.2.2.2.2.2.2.2.2.2.2.2.2.2.2.2.2.2.2.2.2.2.2.2.2.2.2.2.2.2.2.2.1) (r.2.1.2.2.2.2.2.2.2.2.2.2.2.2.2.2.2.2.2.2.2.2.2.2.2.2.2.2.2.2.2.2.2.2.2.2.2.2.2.2.2.2.2.1) with
    | none => none
    | some q => bif (q.1.1.2.1 != (0 : Int)) then some ((((0 : Int), (q.1.1.2.1, ())), ()), (q.2.1, (xx (b2, (p2, (t2, (l2, (b3, (p3, (t3, (l3, z)))))))), ()))) else match h86 1 q.1.1.1 b2 p2 t2 l2 b3 p3 t3 l3 z with
      | none => none
      | some y => some (((((q.1.1.1.length : Nat) : Int), (y.1.1, ())), ()), (q.2.1, (y.2.1, ()))) := by kernel_rfl
theorem e92s_01 (n : Int) (b0 : List Int) (p0 t0 l0 : Int) (b1 : List Int) (p1 t1 l1 : Int) (s : Bool) : h92s 0 1 n b0 p0 t0 l0 b1 p1 t1 l1 s = bif decide (n < 0) then some ((((0 : Int), ((1 : Int), ())), ()), (xx (b0, (p0, (t0, (l0, (b1, (p1, (t1, (l1, s)))))))), ())) else match h91 0 b0 p0 t0 l0 b1 p1 t1 l1 s with
  | none => none
  | some r => bif r.2.1.2.2.2.2.2.2.2.2.2.2.2.2.2.2.2.2.2.2.2.2.2.2.2.2.2.2.2.2.2.2.2.2.2.2.2.2.2.2.2.2.2.1 then some ((((0 : Int), ((11 : Int), ())), ()), (r.2.1, ())) else bif decide (iadd .i64 ((r.2.1.2.2.2.2.2.2.2.2.2.2.2.2.2.2.2.2.2.2.2.2.2.2.2.2.2.2.2.2.2.2.2.2.2.2.2.2.2.1.length : Nat) : Int) (if r.1.1 < n then r.1.1 else n) > 65536) then some ((((0 : Int), ((12 : Int), ())), ()), (r.2.1, ())) else match h88 0 n (r.2.1.2.2.2.2.2.2.2.2.2.2.2.2.2.2.2.2.2.2.2.2.2.2.2.2.2.2.2.2.2.2.2.2.2.1) (r.2.1.2.2.2.2.2.2.2.2.2.2.2.2.2.2.2.2.2.2.2.2.2.2.2.2.2.2.2.2.2.2.2.2.2.2.1) (r.2.1.2.2.2.2.2.2.2.2.2.2.2.2.2.2.2.2.2.2.2.2.2.2.2.2.2.2.2.2.2.2.2.2.2.2.2.1) (r.2.1.2.2.2.2.2.2.2.2.2.2.2.2.2.2.2.2.2.2.2.2.2.2.2.2.2.2.2.2.2.2.2.2.2.2.2.2.1) (r.2.1.2.2.2.2.2.2.2.2.2.2.2.2.2.2.2.2.2.2.2.2.2.2.2.2.2.2.2.2.2.2.2.2.2.2.2.2.2.1) (r.2.1.2.2.2.2.2.2.2.2.2.2.2.2.2.2.2.2.2.2.2.2.2.2.2.2.2.2.2.2.2.2.2.2.2.2.2.2.2.2.1) (r.2.1.2.2.2.2.2.2.2.2.2.2.2.2.2.2.2.2.2.2.2.2.2.2.2.2.2.2.2.2.2.2.2.2.2.2.2.2.2.2.2.1) (r.2.1.2.2.2.2.2.2.2.2.2.2.2.2.2.2.2.2.2.2.2.2.2.2.2.2.2.2.2.2.2.2.2.2.2.2.2.2.2.2.2.2.1) (r.2.1.2.2.2.2.2.2.2.2.2.2.2.2.2.2.2.2.2.2.2.2.2.2.2.2.2.2.2.2.2.2.2.2.2.2.2.2.2.2.2.2.2.1) with
    | none => none
    | some q => bif (q.1.1.2.1 != (0 : Int)) then some ((((0 : Int), (q.1.1.2.1, ())), ()), (q.2.1, ())) else match h86 1 q.1.1.1 (q.2.1.2.2.2.2.2.2.2.2.2.2.2.2.2.2.2.2.2.2.2.2.2.2.2.2.2.2.2.2.2.2.2.2.2.1) (q.2.1.2.2.2.2.2.2.2.2.2.2.2.2.2.2.2.2.2.2.2.2.2.2.2.2.2.2.2.2.2.2.2.2.2.2.1) (q.2.1.2.2.2.2.2.2.2.2.2.2.2.2.2.2.2.2.2.2.2.2.2.2.2.2.2.2.2.2.2.2.2.2.2.2.2.1) (q.2.1.2.2.2.2.2.2.2.2.2.2.2.2.2.2.2.2.2.2.2.2.2.2.2.2.2.2.2.2.2.2.2.2.2.2.2.2.1) (q.2.1.2.2.2.2.2.2.2.2.2.2.2.2.2.2.2.2.2.2.2.2.2.2.2.2.2.2.2.2.2.2.2.2.2.2.2.2.2.1) (q.2.1.2.2.2.2.2.2.2.2.2.2.2.2.2.2.2.2.2.2.2.2.2.2.2.2.2.2.2.2.2.2.2.2.2.2.2.2.2.2.1) (q.2.1.2.2.2.2.2.2.2.2.2.2.2.2.2.2.2.2.2.2.2.2.2.2.2.2.2.2.2.2.2.2.2.2.2.2.2.2.2.2.2.1) (q.2.1.2.2.2.2.2.2.2.2.2.2.2.2.2.2.2.2.2.2.2.2.2.2.2.2.2.2.2.2.2.2.2.2.2.2.2.2.2.2.2.2.1) (q.2.1.2.2.2.2.2.2.2.2.2.2.2.2.2.2.2.2.2.2.2.2.2.2.2.2.2.2.2.2.2.2.2.2.2.2.2.2.2.2.2.2.2.1) with
      | none => none
      | some y => some (((((q.1.1.1.length : Nat) : Int), (y.1.1, ())), ()), (y.2.1, ())) := by kernel_rfl
theorem e92_10 (n : Int) (b0 : List Int) (p0 t0 l0 : Int) (b1 : List Int) (p1 t1 l1 : Int) (s : Bool) (b2 : List Int) (p2 t2 l2 : Int) (b3 : List Int) (p3 t3 l3 : Int) (z : Bool) : h92 1 0 n b0 p0 t0 l0 b1 p1 t1 l1 s b2 p2 t2 l2 b3 p3 t3 l3 z = bif decide (n < 0) then some ((((0 : Int), ((1 : Int), ())), ()), (xx (b0, (p0, (t0, (l0, (b1, (p1, (t1, (l1, s)))))))), (xx (b2, (p2, (t2, (l2, (b3, (p3, (t3, (l3, z)))))))), ()))) else match h91 1 b0 p0 t0 l0 b1 p1 t1 l1 s with
  | none => none
  | some r => bif z then some ((((0 : Int), ((11 : Int), ())), ()), (r.2.1, (xx (b2, (p2, (t2, (l2, (b3, (p3, (t3, (l3, z)))))))), ()))) else bif decide (iadd .i64 ((b2.length : Nat) : Int) (if r.1.1 < n then r.1.1 else n) > 65536) then some ((((0 : Int), ((12 : Int), ())), ()), (r.2.1, (xx (b2, (p2, (t2, (l2, (b3, (p3, (t3, (l3, z)))))))), ()))) else match h88 1 n (r.2.1.2.2.2.2.2.2.2.2.2.2.2.2.2.2.2.2.2.2.2.2.2.2.2.2.2.2.2.2.2.2.2.2.2.1) (r.2.1.2.2.2.2.2.2.2.2.2.2.2.2.2.2.2.2.2.2.2.2.2.2.2.2.2.2.2.2.2.2.2.2.2.2.1) (r.2.1.2.2.2.2.2.2.2.2.2.2.2.2.2.2.2.2.2.2.2.2.2.2.2.2.2.2.2.2.2.2.2.2.2.2.2.1) (r.2.1.2.2.2.2.2.2.2.2.2.2.2.2.2.2.2.2.2.2.2.2.2.2.2.2.2.2.2.2.2.2.2.2.2.2.2.2.1) (r.2.1.2.2.2.2.2.2.2.2.2.2.2.2.2.2.2.2.2.2.2.2.2.2.2.2.2.2.2.2.2.2.2.2.2.2.2.2.2.1) (r.2.1.2.2.2.2.2.2.2.2.2.2.2.2.2.2.2.2.2.2.2.2.2.2.2.2.2.2.2.2.2.2.2.2.2.2.2.2.2.2.1) (r.2.1.2.2.2.2.2.2.2.2.2.2.2.2.2.2.2.2.2.2.2.2.2.2.2.2.2.2.2.2.2.2.2.2.2.2.2.2.2.2.2.1) (r.2.1.2.2.2.2.2.2.2.2.2.2.2.2.2.2.2.2.2.2.2.2.2.2.2.2.2.2.2.2.2.2.2.2.2.2.2.2.2.2.2.2.1) (r.2.1.2.2.2.2.2.2.2.2.2.2.2.2.2.2.2.2.2.2.2.2.2.2.2.2.2.2.2.2.2.2.2.2.2.2.2.2.2.2.2.2.2.1) with
    | none => none
    | some q => bif (q.1.1.2.1 != (0 : Int)) then some ((((0 : Int), (q.1.1.2.1, ())), ()), (q.2.1, (xx (b2, (p2, (t2, (l2, (b3, (p3, (t3, (l3, z)))))))), ()))) else match h86 0 q.1.1.1 b2 p2 t2 l2 b3 p3 t3 l3 z with
      | none => none
      | some y => some (((((q.1.1.1.length : Nat) : Int), (y.1.1, ())), ()), (q.2.1, (y.2.1, ()))) := by kernel_rfl
theorem e92s_10 (n : Int) (b0 : List Int) (p0 t0 l0 : Int) (b1 : List Int) (p1 t1 l1 : Int) (s : Bool) : h92s 1 0 n b0 p0 t0 l0 b1 p1 t1 l1 s = bif decide (n < 0) then some ((((0 : Int), ((1 : Int), ())), ()), (xx (b0, (p0, (t0, (l0, (b1, (p1, (t1, (l1, s)))))))), ())) else match h91 1 b0 p0 t0 l0 b1 p1 t1 l1 s with
  | none => none
  | some r => bif r.2.1.2.2.2.2.2.2.2.2.2.2.2.2.2.2.2.2.2.2.2.2.2.2.2.2.2.2.2.2.2.2.2.2.2.2.2.2.2.2.2.2.2.1 then some ((((0 : Int), ((11 : Int), ())), ()), (r.2.1, ())) else bif decide (iadd .i64 ((r.2.1.2.2.2.2.2.2.2.2.2.2.2.2.2.2.2.2.2.2.2.2.2.2.2.2.2.2.2.2.2.2.2.2.2.1.length : Nat) : Int) (if r.1.1 < n then r.1.1 else n) > 65536) then some ((((0 : Int), ((12 : Int), ())), ()), (r.2.1, ())) else match h88 1 n (r.2.1.2.2.2.2.2.2.2.2.2.2.2.2.2.2.2.2.2.2.2.2.2.2.2.2.2.2.2.2.2.2.2.2.2.1) (r.2.1.2.2.2.2.2.2.2.2.2.2.2.2.2.2.2.2.2.2.2.2.2.2.2.2.2.2.2.2.2.2.2.2.2.2.1) (r.2.1.2.2.2.2.2.2.2.2.2.2.2.2.2.2.2.2.2.2.2.2.2.2.2.2.2.2.2.2.2.2.2.2.2.2.2.1) (r.2.1.2.2.2.2.2.2.2.2.2.2.2.2.2.2.2.2.2.2.2.2.2.2.2.2.2.2.2.2.2.2.2.2.2.2.2.2.1) (r.2.1.2.2.2.2.2.2.2.2.2.2.2.2.2.2.2.2.2.2.2.2.2.2.2.2.2.2.2.2.2.2.2.2.2.2.2.2.2.1) (r.2.1.2.2.2.2.2.2.2.2.2.2.2.2.2.2.2.2.2.2.2.2.2.2.2.2.2.2.2.2.2.2.2.2.2.2.2.2.2.2.1) (r.2.1.2.2.2.2.2.2.2.2.2.2.2.2.2.2.2.2.2.2.2.2.2.2.2.2.2.2.2.2.2.2.2.2.2.2.2.2.2.2.2.1) (r.2.1.2.2.2.2.2.2.2.2.2.2.2.2.2.2.2.2.2.2.2.2.2.2.2.2.2.2.2.2.2.2.2.2.2.2.2.2.2.2.2.2.1) (r.2.1.2.2.2.2.2.2.2.2.2.2.2.2.2.2.2.2.2.2.2.2.2.2.2.2.2.2.2.2.2.2.2.2.2.2.2.2.2.2.2.2.2.1) with
    | none => none
    | some q => bif (q.1.1.2.1 != (0 : Int)) then some ((((0 : Int), (q.1.1.2.1, ())), ()), (q.2.1, ())) else match h86 0 q.1.1.1 (q.2.1.2.2.2.2.2.2.2.2.2.2.2.2.2.2.2.2.2.2.2.2.2.2.2.2.2.2.2.2.2.2.2.2.2.1) (q.2.1.2.2.2.2.2.2.2.2.2.2.2.2.2.2.2.2.2.2.2.2.2.2.2.2.2.2.2.2.2.2.2.2.2.2.1) (q.2.1.2.2.2.2.2.2.2.2.2.2.2.2.2.2.2.2.2.2.2.2.2.2.2.2.2.2.2.2.2.2.2.2.2.2.2.1) (q.2.1.2.2.2.2.2.2.2.2.2.2.2.2.2.2.2.2.2.2.2.2.2.2.2.2.2.2.2.2.2.2.2.2.2.2.2.2.1) (q.2.1.2.2.2.2.2.2.2.2.2.2.2.2.2.2.2.2.2.2.2.2.2.2.2.2.2.2.2.2.2.2.2.2.2.2.2.2.2.1) (q.2.1.2.2.2.2.2.2.2.2.2.2.2.2.2.2.2.2.2.2.2.2.2.2.2.2.2.2.2.2.2.2.2.2.2.2.2.2.2.2.1) (q.2.1.2.2.2.2.2.2.2.2.2.2.2.2.2.2.2.2.2.2.2.2.2.2.2.2.2.2.2.2.2.2.2.2.2.2.2.2.2.2.2.1) (q.2.1.2.2.2.2.2.2.2.2.2.2.2.2.2.2.2.2.2.2.2.2.2.2.2.2.2.2.2.2.2.2.2.2.2.2.2.2.2.2.2.2.1) (q.2.1.2.2.2.2.2.2.2.2.2.2.2.2.2.2.2.2.2.2.2.2.2.2.2.2.2.2.2.2.2.2.2.2.2.2.2.2.2.2.2.2.2.1) with
      | none => none
      | some y => some (((((q.1.1.1.length : Nat) : Int), (y.1.1, ())), ()), (y.2.1, ())) := by kernel_rfl
theorem e92_11 (n : Int) (b0 : List Int) (p0 t0 l0 : Int) (b1 : List Int) (p1 t1 l1 : Int) (s : Bool) (b2 : List Int) (p2 t2 l2 : Int) (b3 : List Int) (p3 t3 l3 : Int) (z : Bool) : h92 1 1 n b0 p0 t0 l0 b1 p1 t1 l1 s b2 p2 t2 l2 b3 p3 t3 l3 z = bif decide (n < 0) then some ((((0 : Int), ((1 : Int), ())), ()), (xx (b0, (p0, (t0, (l0, (b1, (p1, (t1, (l1, s)))))))), (xx (b2, (p2, (t2, (l2, (b3, (p3, (t3, (l3, z)))))))), ()))) else match h91 1 b0 p0 t0 l0 b1 p1 t1 l1 s with
  | none => none
  | some r => bif z then some ((((0 : Int), ((11 : Int), ())), ()), (r.2.1, (xx (b2, (p2, (t2, (l2, (b3, (p3, (t3, (l3, z)))))))), ()))) else bif decide (iadd .i64 ((b3.length : Nat) : Int) (if r.1.1 < n then r.1.1 else n) > 65536) then some ((((0 : Int), ((12 : Int), ())), ()), (r.2.1, (xx (b2, (p2, (t2, (l2, (b3, (p3, (t3, (l3, z)))))))), ()))) else match h88 1 n (r.2.1.2.2.2.2.2.2.2.2.2.2.2.2.2.2.2.2.2.2.2.2.2.2.2.2.2.2.2.2.2.2.2.2.2.1) (r.2.1.2.2.2.2.2.2.2.2.2.2.2.2.2.2.2.2.2.2.2.2.2.2.2.2.2.2.2.2.2.2.2.2.2.2.1) (r.2.1.2.2.2.2.2.2.2.2.2.2.2.2.2.2.2.2.2.2.2.2.2.2.2.2.2.2.2.2.2.2.2.2.2.2.2.1) (r.2.1.2.2.2.2.2.2.2.2.2.2.2.2.2.2.2.2.2.2.2.2.2.2.2.2.2.2.2.2.2.2.2.2.2.2.2.2.1) (r.2.1.2.2.2.2.2.2.2.2.2.2.2.2.2.2.2.2.2.2.2.2.2.2.2.2.2.2.2.2.2.2.2.2.2.2.2.2.2.1) (r.2.1.2.2.2.2.2.2.2.2.2.2.2.2.2.2.2.2.2.2.2.2.2.2.2.2.2.2.2.2.2.2.2.2.2.2.2.2.2.2.1) (r.2.1.2.2.2.2.2.2.2.2.2.2.2.2.2.2.2.2.2.2.2.2.2.2.2.2.2.2.2.2.2.2.2.2.2.2.2.2.2.2.2.1) (r.2.1.2.2.2.2.2.2.2.2.2.2.2.2.2.2.2.2.2.2.2.2.2.2.2.2.2.2.2.2.2.2.2.2.2.2.2.2.2.2.2.2.1) (r.2.1.2.2.2.2.2.2.2.2.2.2.2.2.2.2.2.2.2.2.2.2.2.2.2.2.2.2.2.2.2.2.2.2.2.2.2.2.2.2.2.2.2.1) with
    | none => none
    | some q => bif (q.1.1.2.1 != (0 : Int)) then some ((((0 : Int), (q.1.1.2.1, ())), ()), (q.2.1, (xx (b2, (p2, (t2, (l2, (b3, (p3, (t3, (l3, z)))))))), ()))) else match h86 1 q.1.1.1 b2 p2 t2 l2 b3 p3 t3 l3 z with
      | none => none
      | some y => some (((((q.1.1.1.length : Nat) : Int), (y.1.1, ())), ()), (q.2.1, (y.2.1, ()))) := by kernel_rfl
theorem e92s_11 (n : Int) (b0 : List Int) (p0 t0 l0 : Int) (b1 : List Int) (p1 t1 l1 : Int) (s : Bool) : h92s 1 1 n b0 p0 t0 l0 b1 p1 t1 l1 s = bif decide (n < 0) then some ((((0 : Int), ((1 : Int), ())), ()), (xx (b0, (p0, (t0, (l0, (b1, (p1, (t1, (l1, s)))))))), ())) else some ((((0 : Int), ((1 : Int), ())), ()), (xx (b0, (p0, (t0, (l0, (b1, (p1, (t1, (l1, s)))))))), ())) := by kernel_rfl
theorem h92_is {c d : Cc} {w o n : Int} (hc : okC c) (hd : okC d) : h92 w o n c.1 c.2.1 c.2.2.1 c.2.2.2.1 c.2.2.2.2.1 c.2.2.2.2.2.1 c.2.2.2.2.2.2.1 c.2.2.2.2.2.2.2.1 c.2.2.2.2.2.2.2.2 d.1 d.2.1 d.2.2.1 d.2.2.2.1 d.2.2.2.2.1 d.2.2.2.2.2.1 d.2.2.2.2.2.2.1 d.2.2.2.2.2.2.2.1 d.2.2.2.2.2.2.2.2 = some ((((sRel c d w o n).2.1, ((sRel c d w o n).2.2, ())), ()), (xx (sRel c d w o n).1.1, (xx (sRel c d w o n).1.2, ()))) := by
  unfold sRel
  by_cases hw : w = 0 ∨ w = 1
  · rw [if_neg (fun h => h hw)]
    by_cases ho : o = 0 ∨ o = 1
    · rw [if_neg (fun h => h ho)]
      rcases hw with rfl | rfl <;> rcases ho with rfl | rfl
      · -- 0 0
        rw [e92_00]
        by_cases hn : n < 0
        · rw [if_pos hn, decide_eq_true hn, cond_true]
        · rw [if_neg hn, decide_eq_false hn, cond_false, h91_0 hc]
          simp only []
          have e : (if (((wb c 0).length : Nat) : Int) < n then (((wb c 0).length : Nat) : Int) else n) = ((cutN (wb c 0) n : Nat) : Int) := mnI_is hn
          have hl := cutN_le (wb c 0) n
          have hw := wb_le (w := 0) hc
          have hq := wb_le (w := 0) hd
          rw [e]
          by_cases hs : d.2.2.2.2.2.2.2.2 = true
          · rw [if_pos hs, bif_t hs]
          · rw [if_neg hs, bif_f (Bool.eq_false_iff.2 hs), show iadd .i64 (((d.1).length : Nat) : Int) ((cutN (wb c 0) n : Nat) : Int) = (((wb d 0).length + cutN (wb c 0) n : Nat) : Int) from addL hq (by omega)]
            by_cases hf : 65536 < (wb d 0).length + cutN (wb c 0) n
            · rw [if_pos hf, decide_eq_true (by omega), cond_true]
            · rw [if_neg hf, decide_eq_false (by omega), cond_false, h88_is hc]
              simp only [sTake_err (c := c) (w := 0) (n := n) (by omega) hn, bne_self_eq_false, cond_false]
              rw [h86_is hd (by rw [sTake_len (by omega) hn]; omega)]
              simp only [sPut_err (d := d) (o := 0) (by omega) (Bool.eq_false_iff.2 hs) (show ¬ 65536 < (wb d 0).length + (sTake c 0 n).2.1.length by rw [sTake_len (by omega) hn]; exact hf)]
      · -- 0 1
        rw [e92_01]
        by_cases hn : n < 0
        · rw [if_pos hn, decide_eq_true hn, cond_true]
        · rw [if_neg hn, decide_eq_false hn, cond_false, h91_0 hc]
          simp only []
          have e : (if (((wb c 0).length : Nat) : Int) < n then (((wb c 0).length : Nat) : Int) else n) = ((cutN (wb c 0) n : Nat) : Int) := mnI_is hn
          have hl := cutN_le (wb c 0) n
          have hw := wb_le (w := 0) hc
          have hq := wb_le (w := 1) hd
          rw [e]
          by_cases hs : d.2.2.2.2.2.2.2.2 = true
          · rw [if_pos hs, bif_t hs]
          · rw [if_neg hs, bif_f (Bool.eq_false_iff.2 hs), show iadd .i64 (((d.2.2.2.2.1).length : Nat) : Int) ((cutN (wb c 0) n : Nat) : Int) = (((wb d 1).length + cutN (wb c 0) n : Nat) : Int) from addL hq (by omega)]
            by_cases hf : 65536 < (wb d 1).length + cutN (wb c 0) n
            · rw [if_pos hf, decide_eq_true (by omega), cond_true]
            · rw [if_neg hf, decide_eq_false (by omega), cond_false, h88_is hc]
              simp only [sTake_err (c := c) (w := 0) (n := n) (by omega) hn, bne_self_eq_false, cond_false]
              rw [h86_is hd (by rw [sTake_len (by omega) hn]; omega)]
              simp only [sPut_err (d := d) (o := 1) (by omega) (Bool.eq_false_iff.2 hs) (show ¬ 65536 < (wb d 1).length + (sTake c 0 n).2.1.length by rw [sTake_len (by omega) hn]; exact hf)]
      · -- 1 0
        rw [e92_10]
        by_cases hn : n < 0
        · rw [if_pos hn, decide_eq_true hn, cond_true]
        · rw [if_neg hn, decide_eq_false hn, cond_false, h91_1 hc]
          simp only []
          have e : (if (((wb c 1).length : Nat) : Int) < n then (((wb c 1).length : Nat) : Int) else n) = ((cutN (wb c 1) n : Nat) : Int) := mnI_is hn
          have hl := cutN_le (wb c 1) n
          have hw := wb_le (w := 1) hc
          have hq := wb_le (w := 0) hd
          rw [e]
          by_cases hs : d.2.2.2.2.2.2.2.2 = true
          · rw [if_pos hs, bif_t hs]
          · rw [if_neg hs, bif_f (Bool.eq_false_iff.2 hs), show iadd .i64 (((d.1).length : Nat) : Int) ((cutN (wb c 1) n : Nat) : Int) = (((wb d 0).length + cutN (wb c 1) n : Nat) : Int) from addL hq (by omega)]
            by_cases hf : 65536 < (wb d 0).length + cutN (wb c 1) n
            · rw [if_pos hf, decide_eq_true (by omega), cond_true]
            · rw [if_neg hf, decide_eq_false (by omega), cond_false, h88_is hc]
              simp only [sTake_err (c := c) (w := 1) (n := n) (by omega) hn, bne_self_eq_false, cond_false]
              rw [h86_is hd (by rw [sTake_len (by omega) hn]; omega)]
              simp only [sPut_err (d := d) (o := 0) (by omega) (Bool.eq_false_iff.2 hs) (show ¬ 65536 < (wb d 0).length + (sTake c 1 n).2.1.length by rw [sTake_len (by omega) hn]; exact hf)]
      · -- 1 1
        rw [e92_11]
        by_cases hn : n < 0
        · rw [if_pos hn, decide_eq_true hn, cond_true]
        · rw [if_neg hn, decide_eq_false hn, cond_false, h91_1 hc]
          simp only []
          have e : (if (((wb c 1).length : Nat) : Int) < n then (((wb c 1).length : Nat) : Int) else n) = ((cutN (wb c 1) n : Nat) : Int) := mnI_is hn
          have hl := cutN_le (wb c 1) n
          have hw := wb_le (w := 1) hc
          have hq := wb_le (w := 1) hd
          rw [e]
          by_cases hs : d.2.2.2.2.2.2.2.2 = true
          · rw [if_pos hs, bif_t hs]
          · rw [if_neg hs, bif_f (Bool.eq_false_iff.2 hs), show iadd .i64 (((d.2.2.2.2.1).length : Nat) : Int) ((cutN (wb c 1) n : Nat) : Int) = (((wb d 1).length + cutN (wb c 1) n : Nat) : Int) from addL hq (by omega)]
            by_cases hf : 65536 < (wb d 1).length + cutN (wb c 1) n
            · rw [if_pos hf, decide_eq_true (by omega), cond_true]
            · rw [if_neg hf, decide_eq_false (by omega), cond_false, h88_is hc]
              simp only [sTake_err (c := c) (w := 1) (n := n) (by omega) hn, bne_self_eq_false, cond_false]
              rw [h86_is hd (by rw [sTake_len (by omega) hn]; omega)]
              simp only [sPut_err (d := d) (o := 1) (by omega) (Bool.eq_false_iff.2 hs) (show ¬ 65536 < (wb d 1).length + (sTake c 1 n).2.1.length by rw [sTake_len (by omega) hn]; exact hf)]
    · rw [if_pos ho]
      unfold h92 p92v0
      rcases hw with rfl | rfl
      · rw [h111_no (w := o) (by omega) (by omega)]
        rfl
      · rw [h111_no (w := o) (by omega) (by omega)]
        rfl
  · rw [if_pos hw]
    unfold h92 p92v0
    rw [h111_no (by omega) (by omega)]
    rfl
theorem h92s_is {c : Cc} {w o n : Int} (hc : okC c) : h92s w o n c.1 c.2.1 c.2.2.1 c.2.2.2.1 c.2.2.2.2.1 c.2.2.2.2.2.1 c.2.2.2.2.2.2.1 c.2.2.2.2.2.2.2.1 c.2.2.2.2.2.2.2.2 = some ((((sRel1 c w o n).2.1, ((sRel1 c w o n).2.2, ())), ()), (xx (sRel1 c w o n).1, ())) := by
  unfold sRel1
  by_cases hw : w = 0 ∨ w = 1
  · rw [if_neg (fun h => h hw)]
    by_cases ho : o = 0 ∨ o = 1
    · rw [if_neg (fun h => h ho)]
      rcases hw with rfl | rfl <;> rcases ho with rfl | rfl
      · -- 0 0
        rw [e92s_00]
        by_cases hn : n < 0
        · rw [if_pos hn, decide_eq_true hn, cond_true]
        · rw [if_neg hn, decide_eq_false hn, cond_false, if_pos rfl]
      · -- 0 1
        rw [e92s_01]
        by_cases hn : n < 0
        · rw [if_pos hn, decide_eq_true hn, cond_true]
        · rw [if_neg hn, decide_eq_false hn, cond_false, h91_0 hc, if_neg (by decide)]
          simp only []
          have e : (if (((wb c 0).length : Nat) : Int) < n then (((wb c 0).length : Nat) : Int) else n) = ((cutN (wb c 0) n : Nat) : Int) := mnI_is hn
          have hl := cutN_le (wb c 0) n
          have hw := wb_le (w := 0) hc
          have hq := wb_le (w := 1) hc
          rw [e]
          by_cases hs : c.2.2.2.2.2.2.2.2 = true
          · rw [if_pos hs, bif_t hs]
          · rw [if_neg hs, bif_f (Bool.eq_false_iff.2 hs), show iadd .i64 (((c.2.2.2.2.1).length : Nat) : Int) ((cutN (wb c 0) n : Nat) : Int) = (((wb c 1).length + cutN (wb c 0) n : Nat) : Int) from addL hq (by omega)]
            by_cases hf : 65536 < (wb c 1).length + cutN (wb c 0) n
            · rw [if_pos hf, decide_eq_true (by omega), cond_true]
            · rw [if_neg hf, decide_eq_false (by omega), cond_false, h88_is hc]
              simp only [sTake_err (c := c) (w := 0) (n := n) (by omega) hn, bne_self_eq_false, cond_false]
              rw [h86_is (sTake_ok hc) (by rw [sTake_len (by omega) hn]; omega)]
              simp only [sPut_err (d := (sTake c 0 n).1) (o := 1) (by omega) (by rw [sTake_shut]; exact Bool.eq_false_iff.2 hs) (show ¬ 65536 < (wb (sTake c 0 n).1 1).length + (sTake c 0 n).2.1.length by rw [sTake_len (by omega) hn, sTake_wb (by omega) (by omega) hn (by decide)]; exact hf)]
      · -- 1 0
        rw [e92s_10]
        by_cases hn : n < 0
        · rw [if_pos hn, decide_eq_true hn, cond_true]
        · rw [if_neg hn, decide_eq_false hn, cond_false, h91_1 hc, if_neg (by decide)]
          simp only []
          have e : (if (((wb c 1).length : Nat) : Int) < n then (((wb c 1).length : Nat) : Int) else n) = ((cutN (wb c 1) n : Nat) : Int) := mnI_is hn
          have hl := cutN_le (wb c 1) n
          have hw := wb_le (w := 1) hc
          have hq := wb_le (w := 0) hc
          rw [e]
          by_cases hs : c.2.2.2.2.2.2.2.2 = true
          · rw [if_pos hs, bif_t hs]
          · rw [if_neg hs, bif_f (Bool.eq_false_iff.2 hs), show iadd .i64 (((c.1).length : Nat) : Int) ((cutN (wb c 1) n : Nat) : Int) = (((wb c 0).length + cutN (wb c 1) n : Nat) : Int) from addL hq (by omega)]
            by_cases hf : 65536 < (wb c 0).length + cutN (wb c 1) n
            · rw [if_pos hf, decide_eq_true (by omega), cond_true]
            · rw [if_neg hf, decide_eq_false (by omega), cond_false, h88_is hc]
              simp only [sTake_err (c := c) (w := 1) (n := n) (by omega) hn, bne_self_eq_false, cond_false]
              rw [h86_is (sTake_ok hc) (by rw [sTake_len (by omega) hn]; omega)]
              simp only [sPut_err (d := (sTake c 1 n).1) (o := 0) (by omega) (by rw [sTake_shut]; exact Bool.eq_false_iff.2 hs) (show ¬ 65536 < (wb (sTake c 1 n).1 0).length + (sTake c 1 n).2.1.length by rw [sTake_len (by omega) hn, sTake_wb (by omega) (by omega) hn (by decide)]; exact hf)]
      · -- 1 1
        rw [e92s_11]
        by_cases hn : n < 0
        · rw [if_pos hn, decide_eq_true hn, cond_true]
        · rw [if_neg hn, decide_eq_false hn, cond_false, if_pos rfl]
    · rw [if_pos ho]
      unfold h92s p92v1
      rcases hw with rfl | rfl
      · rw [h111_no (w := o) (by omega) (by omega)]
        rfl
      · rw [h111_no (w := o) (by omega) (by omega)]
        rfl
  · rw [if_pos hw]
    unfold h92s p92v1
    rw [h111_no (by omega) (by omega)]
    rfl
end Go.Proofs.YtcnkihdjenjdgaaE
