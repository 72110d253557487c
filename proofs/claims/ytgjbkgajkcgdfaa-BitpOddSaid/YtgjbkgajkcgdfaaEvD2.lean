/- Chapter 3: a key spread. -/
import Derived.Test.YtgjbkgajkcgdfaaEvD1
import Derived.Test.YtgjbkgajkcgdfaaEvM1
namespace Go.Proofs.YtgjbkgajkcgdfaaE
open Go
set_option linter.unusedVariables false
set_option linter.unusedSimpArgs false
theorem own25 : ownOf FT 25 = false := rfl
/-- what the document's words make of a key -/
def keyN : Int → List Int → Int
  | n, [] => n
  | n, c :: l => keyN (IntKind.u64.wrap ((BitVec.ofInt 64 (IntKind.u64.wrap (n * 2 ^ 8)) ||| BitVec.ofInt 64 (IntKind.u64.wrap c)).toNat)) l
def sevI (x : Int) (i : Nat) : Int := IntKind.u8.wrap (IntKind.u64.wrap (x.fdiv (2 ^ (7 * (7 - i))) * 2 ^ 1))
def sprI (x : Int) (i : Nat) : Int := oddI (sevI x i)
abbrev e24 (x : Int) (i : Nat) (v : List V) : Env :=
  [(0, v.getD 0 .undef), (2, v.getD 1 .undef), (3, v.getD 2 .undef), (4, .int .u64 x), (6, v.getD 3 .undef), (7, .sl 0 0 8 (some 8) 1), (8, v.getD 4 .undef), (11, v.getD 5 .undef), (12, v.getD 6 .undef), (13, v.getD 7 .undef), (14, v.getD 8 .undef), (15, v.getD 9 .undef), (26, .int .i64 8), (27, .int .i64 i), (28, v.getD 10 .undef)]
def outB (l : List Int) : List Blk := [.cells false (.ints .u8 l)]
theorem round24 (x : Int) (i : Nat) (hi : i < 8) (l : List Int) (hl : l.length = 8) (c : Nat) (h25 : evF FT noX c 25 [.int .u8 (sevI x i)] [] = some (.int .u8 (sprI x i), [])) :
    ev (evF FT noX c) (ownOf FT) 0 30 (bodyOf (loopN k24 1)) (e24 x i [], outB l) = some (.norm, e24 x (i + 1) [.undef, .undef, .undef, .undef, .int .i64 i, .undef, .undef, .undef, .undef, .undef, .bool true], outB (l.set i (sprI x i))) := by
  have : i = 0 ∨ i = 1 ∨ i = 2 ∨ i = 3 ∨ i = 4 ∨ i = 5 ∨ i = 6 ∨ i = 7 := by omega
  rcases this with rfl | rfl | rfl | rfl | rfl | rfl | rfl | rfl <;>
    (simp [sevI, IntKind.wrap, IntKind.signed, IntKind.bits] at h25
     simp [loopN, loopsOf, k24, bodyOf, ev, evOps, wants, evOp, evQ, evE, R.ev, look, push, vbin, vint, vshift, isShift, IntKind.wrap, IntKind.signed, IntKind.bits, C.len, C.get, C.set, V.cellsC, C.one, V.isCell, commit, callEv, own25, lend, ren, reach, far, deep, blockOf, held, inside, byId, hasRs, outB, hl, h25])
theorem runs_split {F : Nat → Option Fun} {X : Nat → List V → Option (V × List Blk)} {n0 : Nat} {a b : K} {s s1 : St} (h : Runs F X n0 (.seq a b) s .norm s1) : ∃ q, Runs F X n0 a s .norm q ∧ Runs F X n0 b q .norm s1 := by
  obtain ⟨n, h⟩ := h
  cases n with
  | zero => simp [ev] at h
  | succ n =>
    simp only [ev] at h
    cases ha : ev (evF F X (n + 1)) (ownOf F) n0 n a s with
    | none => rw [ha] at h; cases h
    | some p =>
      obtain ⟨r, q⟩ := p
      rw [ha] at h
      cases r with
      | norm => exact ⟨q, ⟨n + 1, ev_mono (evF_mono (Nat.le_refl _)) (by omega) ha⟩, ⟨n + 1, ev_mono (evF_mono (Nat.le_refl _)) (by omega) h⟩⟩
      | _ => simp at h
theorem runs_pre2 {F : Nat → Option Fun} {X : Nat → List V → Option (V × List Blk)} {n0 : Nat} {a b c : K} {s s1 s2 : St} {r : Ex} (h : Runs F X n0 (.seq a b) s .norm s1) (h2 : Runs F X n0 c s1 r s2) : Runs F X n0 (.seq a (.seq b c)) s r s2 := by
  obtain ⟨q, h3, h4⟩ := runs_split h
  exact runs_seq h3 (runs_seq h4 h2)
theorem runs_pre6 {F : Nat → Option Fun} {X : Nat → List V → Option (V × List Blk)} {n0 : Nat} {a b c d e f : K} {s s1 s2 : St} {r : Ex} (h : Runs F X n0 (.seq a (.seq b (.seq c (.seq d e)))) s .norm s1) (h2 : Runs F X n0 f s1 r s2) : Runs F X n0 (.seq a (.seq b (.seq c (.seq d (.seq e f))))) s r s2 := by
  obtain ⟨q1, h3, h4⟩ := runs_split h
  obtain ⟨q2, h5, h6⟩ := runs_split h4
  obtain ⟨q3, h7, h8⟩ := runs_split h6
  exact runs_seq h3 (runs_seq h5 (runs_seq h7 (runs_pre2 h8 h2)))

theorem head24 (x : Int) (i j : Nat) (l : List Int) : atHead 0 [4, 7, 26, 27] (e24 x i [.undef, .undef, .undef, .undef, .int .i64 j, .undef, .undef, .undef, .undef, .undef, .bool true], outB l) = some (e24 x i [], outB l) := by kernel_rfl
def fillK (x : Int) : Nat → Nat → List Int → List Int
  | _, 0, l => l
  | i, d + 1, l => fillK x (i + 1) d (l.set i (sprI x i))
theorem loop24 (x : Int) : ∀ (d i : Nat) (l : List Int) (s : St), i + d = 8 → l.length = 8 → atHead 0 [4, 7, 26, 27] s = some (e24 x i [], outB l) →
    Runs FT noX 0 (loopN k24 1) s (.exit 2) (e24 x 8 [.undef, .undef, .undef, .undef, .undef, .undef, .undef, .undef, .undef, .undef, .bool false], outB (fillK x i d l)) := by
  have hloop : loopN k24 1 = .loop [4, 7, 26, 27] (bodyOf (loopN k24 1)) := rfl
  intro d
  induction d with
  | zero =>
    intro i l s hd hl hs
    have : i = 8 := by omega
    subst this
    rw [hloop]
    exact runs_loop_out hs (runs_ev (n := 30) (c := 0) (by kernel_rfl)) (by simp)
  | succ d ih =>
    intro i l s hd hl hs
    obtain ⟨N, hN⟩ := all_odd
    have hr := u8_range (IntKind.u64.wrap (x.fdiv (2 ^ (7 * (7 - i))) * 2 ^ 1))
    have h25 := hN N (Nat.le_refl _) _ hr.1 hr.2
    have r1 := runs_ev (n := 30) (c := N) (round24 x i (by omega) l hl N h25)
    have r2 := ih (i + 1) (l.set i (sprI x i)) _ (by omega) (by simpa using hl) (head24 x (i + 1) i (l.set i (sprI x i)))
    rw [hloop] at r2 ⊢
    exact runs_loop hs r1 r2
theorem ans24 (a b c d e f g : Int) : Ans FT noX 24 [.rs 7 (.ints .u8 [a, b, c, d, e, f, g])] [] (.tup [.sl 0 0 8 (some 8) 1, .int .i64 0]) (outB ((List.range 8).map (sprI (keyN 0 [a, b, c, d, e, f, g])))) := by
  generalize hx : keyN 0 [a, b, c, d, e, f, g] = x
  refine ans_of (fn := k24) rfl (by simp [k24]) (e1 := e24 x 8 [.undef, .sl 0 0 8 (some 8) 1, .int .i64 0, .undef, .undef, .undef, .undef, .undef, .undef, .undef, .bool false]) (H1 := outB (fillK x 0 8 [0, 0, 0, 0, 0, 0, 0, 0])) (r := .ret) ?_ (.inr rfl) (rs := [.sl 0 0 8 (some 8) 1, .int .i64 0]) rfl (by kernel_rfl)
  show Runs FT noX 0 (.seq _ (.seq _ (.seq _ (.seq _ (.seq _ (.seq (.seq _ (.block 2 (loopN k24 1))) (.seq _ .ret))))))) _ _ _
  refine runs_pre6 (s1 := ([(0, .undef), (2, .undef), (3, .undef), (4, .int .u64 x), (6, .undef), (7, .sl 0 0 8 (some 8) 1), (8, .undef), (11, .undef), (12, .rs 7 (.ints .u8 [a, b, c, d, e, f, g])), (13, .int .i64 7), (14, .int .i64 7), (15, .bool false), (26, .undef), (27, .undef), (28, .undef)], outB [0, 0, 0, 0, 0, 0, 0, 0])) (runs_ev (n := 60) (c := 0) (by subst hx; kernel_rfl)) ?_
  refine runs_seq (runs_seq (s1 := (e24 x 0 [.undef, .undef, .undef, .undef, .undef, .undef, .rs 7 (.ints .u8 [a, b, c, d, e, f, g]), .int .i64 7, .int .i64 7, .bool false, .undef], outB [0, 0, 0, 0, 0, 0, 0, 0])) (runs_ev (n := 5) (c := 0) (by kernel_rfl)) (runs_block_exit (loop24 x 8 0 [0, 0, 0, 0, 0, 0, 0, 0] _ rfl rfl (by kernel_rfl)))) (runs_seq (runs_ev (n := 5) (c := 0) (by kernel_rfl)) runs_ret)
end Go.Proofs.YtgjbkgajkcgdfaaE
