/- strings.SplitSeq's closure, walked: it hands on the pieces. -/
import Derived.Test.YthigfakjiknhcaaDoorTyl
import Derived.RangeFuncNested
import Derived.RangeFuncBound
import Derived.RangeFuncCalls
import Derived.RangeFuncLeaves
import Derived.Shelf.Abstract
import Derived.Shelf.RegionOpen
import Derived.WalkKit
import Derived.OwnWalkIn
import Derived.TacticsInMore
import Derived.LoopNIn
import Derived.LoopIn
namespace Go.Proofs.YthigfakjiknhcaaDoorT
open Go Go.Proofs Go.RowKit Go.Shelf
set_option linter.unusedSimpArgs false
set_option linter.unusedVariables false
attribute [local go_sem] Oper.semAt_some
/-- pieces, one space between two -/
def joinS : List (List UInt8) → List UInt8
  | [] => []
  | [p] => p
  | p :: q :: t => p ++ 32 :: joinS (q :: t)
def lenAt (w : World) (b : Nat) : Nat := match w.cell? ⟨b, 0, none⟩ with
  | some (.string s) => s.size
  | _ => 0
theorem SQ.cells {w : World} {b : Nat} {s : List UInt8} (h : SQ w b s) : w.cell? ⟨b, 0, none⟩ = some (str s) ∧ w.cell? ⟨b + 1, 0, none⟩ = some (.string ⟨#[32]⟩) ∧ w.cell? ⟨b + 2, 0, none⟩ = some (.int .i64 0) :=
  ⟨cell_at h.1 0, cell_at h.2.1 0, cell_at h.2.2 0⟩
theorem SQ.free {w : World} {b : Nat} {s : List UInt8} (h : SQ w b s) : w.frozen? ⟨b, 0, none⟩ = false := by
  simp [World.frozen?, h.1]
theorem SQ.set {w : World} {b : Nat} {s : List UInt8} (h : SQ w b s) (s' : List UInt8) : SQ (w.setCell ⟨b, 0, none⟩ (str s')) b s' := by
  refine ⟨?_, ?_, ?_⟩
  · simp [World.setCell, Array.getElem?_modify, h.1]
  · rw [Below.heap_setCell _ _ _ _ (by show b + 1 ≠ b; omega)]; exact h.2.1
  · rw [Below.heap_setCell _ _ _ _ (by show b + 2 ≠ b; omega)]; exact h.2.2
theorem ix_none (p : List UInt8) (h : ∀ c ∈ p, c ≠ 32) : Lib.indexByte p 32 = -1 := by
  induction p with
  | nil => rfl
  | cons c t ih =>
    have hc := h c (by simp)
    have := ih (fun d hd => h d (by simp [hd]))
    unfold Lib.indexByte
    rw [if_neg (by simpa using hc), this]
    rfl
theorem ix_some (p r : List UInt8) (h : ∀ c ∈ p, c ≠ 32) : Lib.indexByte (p ++ 32 :: r) 32 = (p.length : Nat) := by
  induction p with
  | nil => simp [Lib.indexByte]
  | cons c t ih =>
    have hc := h c (by simp)
    have := ih (fun d hd => h d (by simp [hd]))
    rw [List.cons_append]
    unfold Lib.indexByte
    rw [if_neg (by simpa using hc), this, if_neg (by simp)]
    simp
theorem joinS_cons (p : List UInt8) (q : List (List UInt8)) (h : q ≠ []) : joinS (p :: q) = p ++ 32 :: joinS q := by
  cases q with
  | nil => exact absurd rfl h
  | cons a t => rfl
set_option maxHeartbeats 4000000 in
set_option maxRecDepth 100000 in
theorem seq46 (n l b : Nat) (h1 : 2 ≤ n) (xs : List (List UInt8)) (hx0 : xs ≠ []) (hx : ∀ p ∈ xs, (∀ c ∈ p, c ≠ 32) ∧ 0 < p.length) (hlen : (joinS xs).length ≤ 1000) (J : List (List UInt8) → World → Prop)
    (hJ : ∀ pre W v, J pre W → J pre (W.setCell ⟨b, 0, none⟩ v))
    (hY : ∀ pre p W s, pre ++ [p] <+: xs → J pre W → SQ W b s → YieldAt Fence.wide (n - 1) Tryd.prog l #[str p] W fun e W' => e = .returned (.bool true) ∧ J (pre ++ [p]) W' ∧ SQ W' b s)
    (W : World) (hS : SQ W b (joinS xs)) (h0 : J [] W) :
    CallsIn Fence.wide n Tryd.prog 46 #[.func (.yield l) #[] #[], .pointer (some ⟨b + 1, 0, none⟩), .pointer (some ⟨b, 0, none⟩), .pointer (some ⟨b + 2, 0, none⟩)] W fun e W' => (∃ v, e = .returned v) ∧ J xs W' := by
  have h1' : 1 ≤ n := by omega
  obtain ⟨c0, c1, c2⟩ := hS.cells
  refine callsIn_of_wp Tryd.func46 rfl trivial ?_ rfl
  simp only [Tryd.ntmps46, List.size_toArray, List.length_cons, List.length_nil, Nat.reduceAdd, Nat.reduceSub, Array.replicate_succ, Array.replicate_zero, List.push_toArray, List.append_toArray, List.nil_append, List.cons_append]
  gi_wp2
  gi_loopw [7] (fun _ wr => ∃ pre rest, xs = pre ++ rest ∧ rest ≠ [] ∧ J pre wr ∧ SQ wr b (joinS rest) ∧ (joinS rest).length ≤ 1000) (fun _ wr => lenAt wr b)
  case atStart => exact ⟨[], xs, rfl, hx0, h0, hS, hlen⟩
  case round =>
    obtain ⟨pre, rest, hxs, hr, hj, hs, hl⟩ := hrel
    cases rest with
    | nil => exact absurd rfl hr
    | cons p q =>
      obtain ⟨hp1, hp2⟩ := hx p (by rw [hxs]; simp)
      obtain ⟨c0, c1, c2⟩ := hs.cells
      have f0 := hs.free
      by_cases hq : q = []
      · subst hq
        have hi := ix_none p hp1
        have hpn : p ≠ [32] := fun e => hp1 32 (by rw [e]; simp) rfl
        have h48 : ∀ w, Calls Tryd.prog 48 #[str p, .string ⟨#[32]⟩] w fun e w' => e = .returned (.int .i64 (-1)) ∧ w' = w := fun w => by have := idx_any p hpn w; rw [hi] at this; exact this
        obtain ⟨fn, tmps, assign, body, hy, hR⟩ := hY pre p wr p ⟨[], by rw [hxs]; simp⟩ hj hs
        have hxs' : pre ++ [p] = xs := by rw [hxs]
        have c0' : wr.cell? ⟨b, 0, none⟩ = some (str p) := c0
        clear c0 hY
        gi_wp2_with (first | (refine ⟨trivial, ?_⟩; gi_at_call 48; refine (callsIn_wide.2 (h48 _)).mono ?_; rintro e w1 ⟨rfl, rfl⟩) | fail)
        refine hR.mono ?_
        rintro e W3 ⟨rfl, hJ3, hS3⟩
        rw [hxs'] at hJ3
        gi_wp2
        go_end0
        exact ⟨⟨_, rfl⟩, hJ3⟩
      · have hi := ix_some p (joinS q) hp1
        have hjc := joinS_cons p q hq
        rw [hjc] at c0 hs hl
        have hsn : p ++ 32 :: joinS q ≠ [32] := fun e => by
          have := congrArg List.length e
          simp at this
          omega
        have h48 : ∀ w, Calls Tryd.prog 48 #[str (p ++ 32 :: joinS q), .string ⟨#[32]⟩] w fun e w' => e = .returned (.int .i64 (p.length : Nat)) ∧ w' = w := fun w => by have := idx_any (p ++ 32 :: joinS q) hsn w; rw [hi] at this; exact this
        obtain ⟨fn, tmps, assign, body, hy, hR⟩ := hY pre p wr (p ++ 32 :: joinS q) ⟨q, by rw [hxs]; simp⟩ hj hs
        have t1 := ext_take (p ++ 32 :: joinS q) p.length (by simp)
        have t2 := ext_drop (p ++ 32 :: joinS q) (p.length + 1)
        rw [List.take_left' rfl] at t1
        rw [show (p ++ 32 :: joinS q).drop (p.length + 1) = joinS q by rw [List.drop_append]; simp] at t2
        have hkl : p.length + 1 ≤ (p ++ 32 :: joinS q).length := by simp
        have hql : (joinS q).length ≤ 1000 := by simp at hl; omega
        have hms : (joinS q).length < (p ++ 32 :: joinS q).length := by simp; omega
        have hsz : (str (p ++ 32 :: joinS q)) = str (p ++ 32 :: joinS q) := rfl
        have hla : lenAt wr b = (p ++ 32 :: joinS q).length := by unfold lenAt; rw [c0]; rfl
        have hend : xs = (pre ++ [p]) ++ q := by rw [hxs]; simp
        have H1 := Lib.hid hla
        have H2 := Lib.hid hend
        have H3 := Lib.hid hms
        have H4 := Lib.hid hxs
        have H5 := Lib.hid hjc
        have H6 := Lib.hid hi
        clear hla hend hms hxs hjc hi hY hsn
        generalize hK : p.length = K at *
        have H7 := Lib.hid hK
        clear hK
        generalize hSS : p ++ 32 :: joinS q = S at *
        have H8 := Lib.hid hSS
        clear hSS
        have hk0 : (0 : Int) ≤ ((K : Nat) : Int) := by omega
        gi_wp2_with (first | (refine ⟨trivial, ?_⟩; gi_at_call 48; refine (callsIn_wide.2 (h48 _)).mono ?_; rintro e w1 ⟨rfl, rfl⟩) | fail)
        refine hR.mono ?_
        rintro e W3 ⟨rfl, hJ3, hS3⟩
        obtain ⟨m0, m1, m2⟩ := hS3.cells
        have mf := hS3.free
        gi_wp2
        go_roundw
        case rel =>
          refine ⟨pre ++ [p], q, H2.out, hq, ?_, ?_, hql⟩
          · exact hJ _ _ _ hJ3
          · first | exact hS3.set (joinS q) | (rw [t2]; exact hS3.set (joinS q))
        case measure =>
          rw [H1.out]
          have := (hS3.set (joinS q)).cells.1
          first | (unfold lenAt; rw [this]; exact H3.out) | (rw [t2]; unfold lenAt; rw [this]; exact H3.out)
end Go.Proofs.YthigfakjiknhcaaDoorT
