/- Chapter 3: the law BitpOdd. -/
import Derived.Test.YtgjbkgajkcgdfaaEvD2
namespace Go.Proofs.YtgjbkgajkcgdfaaE
open Go
set_option linter.unusedVariables false
set_option linter.unusedSimpArgs false
theorem own24 : ownOf FT 24 = false := rfl
theorem own26 : ownOf FT 26 = false := rfl
/-- the law's count of a byte's bits -/
def cntI (c : Int) : Nat → Int
  | 0 => 0
  | i + 1 => IntKind.i64.wrap (cntI c i + IntKind.i64.wrap (IntKind.u8.wrap ((BitVec.ofInt 8 (c.fdiv (2 ^ i)) &&& BitVec.ofInt 8 1).toNat)))
theorem all_cnt : ((List.range 256).all fun b => decide ((cntI (oddI (b : Nat)) 8).tmod 2 = 1)) = true := by kernel_rfl
theorem cnt_odd (b : Int) (h0 : 0 ≤ b) (h1 : b < 256) : (cntI (oddI b) 8).tmod 2 = 1 := by
  obtain ⟨n, rfl⟩ := Int.eq_ofNat_of_zero_le h0
  have := List.all_eq_true.1 all_cnt n (by simp; omega)
  exact of_decide_eq_true this
abbrev e11 (b : Int) (i : Nat) (v : List V) : Env :=
  [(0, v.getD 0 .undef), (1, .int .u8 b), (2, v.getD 1 .undef), (4, v.getD 2 .undef), (5, .sl 0 0 8 (some 8) 1), (6, .int .i64 0), (8, v.getD 3 .undef), (9, v.getD 4 .undef), (10, v.getD 5 .undef), (20, .sl 1 0 9 none 1), (21, .int .i64 9), (22, .int .i64 i), (23, v.getD 6 .undef), (26, v.getD 7 .undef), (27, v.getD 8 .undef), (39, v.getD 9 .undef)]
def h11 (o l : List Int) : List Blk := [.cells false (.ints .u8 o), .cells false (.ints .u8 l)]
theorem head11 (b : Int) (i : Nat) (o l : List Int) (c n : Int) : atHead 0 [1, 5, 6, 20, 21, 22] (e11 b i [.undef, .undef, .undef, .int .u8 c, .int .i64 n, .undef, .undef, .int .i64 8, .bool false, .bool false], h11 o l) = some (e11 b i [], h11 o l) := by kernel_rfl
/-- the inner loop: eight bits -/
theorem inner11 (b : Int) (i : Nat) (o l : List Int) (c : Int) :
    ev (evF FT noX 0) (ownOf FT) 0 60 (loopN k11 1) (e11 b i [.undef, .undef, .undef, .int .u8 c, .int .i64 0, .undef, .bool true, .int .i64 0, .undef, .undef], h11 o l) =
      some (.exit 2, e11 b i [.undef, .undef, .undef, .int .u8 c, .int .i64 (cntI c 8), .undef, .undef, .int .i64 8, .bool false, .undef], h11 o l) := by kernel_rfl
theorem round11 (b : Int) (i : Nat) (hi : i < 9) (o l : List Int) (c : Int) (hc : l[i]? = some c) (hl : l.length = 9) (hodd : (cntI c 8).tmod 2 = 1) :
    Runs FT noX 0 (bodyOf (loopN k11 0)) (e11 b i [], h11 o l) .norm (e11 b (i + 1) [.undef, .undef, .undef, .int .u8 c, .int .i64 (cntI c 8), .undef, .undef, .int .i64 8, .bool false, .bool false], h11 o l) := by
  have hi9 : (i : Int) < 9 := by omega
  have hil : i < l.length := by omega
  have hci : l[i]'hil = c := by rw [List.getElem?_eq_getElem hil] at hc; injection hc
  have hw : IntKind.i64.wrap ((i : Int) + 1) = (i : Int) + 1 := wrap64 (by omega) (by omega)
  show Runs FT noX 0 (.seq _ (.seq _ (.seq (.block 1 (.seq _ (.seq _ (.seq (.seq _ (.block 2 (loopN k11 1))) (.seq _ _))))) _))) _ _ _
  refine runs_seq (s1 := (e11 b i [.undef, .undef, .undef, .undef, .undef, .undef, .bool true], h11 o l)) (runs_ev (n := 5) (c := 0) ?_) (runs_seq (runs_cond_t rfl runs_skip) (runs_seq (runs_block (r := .norm) (s1 := (e11 b i [.undef, .undef, .undef, .int .u8 c, .int .i64 (cntI c 8), .undef, .undef, .int .i64 8, .bool false, .bool false], h11 o l)) ?_ (by simp)) (runs_ev (n := 5) (c := 0) ?_)))
  · simp [ev, evOps, wants, evOp, evQ, R.ev, look, push, commit, vbin, vint, isShift, hi9]
  · refine runs_seq (s1 := (e11 b i [.undef, .undef, .undef, .int .u8 c, .undef, .undef, .bool true], h11 o l)) (runs_ev (n := 5) (c := 0) ?_) (runs_seq (s1 := (e11 b i [.undef, .undef, .undef, .int .u8 c, .int .i64 0, .undef, .bool true], h11 o l)) (runs_ev (n := 5) (c := 0) (by kernel_rfl)) (runs_seq (runs_seq (s1 := (e11 b i [.undef, .undef, .undef, .int .u8 c, .int .i64 0, .undef, .bool true, .int .i64 0], h11 o l)) (runs_ev (n := 5) (c := 0) (by kernel_rfl)) (runs_block_exit (runs_ev (inner11 b i o l c)))) ?_))
    · simp [ev, evOps, wants, evOp, evQ, R.ev, look, push, commit, vbin, vint, isShift, h11, hi9, C.get, hil, hci]
    · refine runs_seq (s1 := (e11 b i [.undef, .undef, .undef, .int .u8 c, .int .i64 (cntI c 8), .undef, .undef, .int .i64 8, .bool false, .bool false], h11 o l)) (runs_ev (n := 5) (c := 0) ?_) (runs_cond_f rfl runs_skip)
      simp [ev, evOps, wants, evOp, evQ, R.ev, look, push, commit, vbin, vint, isShift, hodd]
  · simp [ev, evOps, wants, evOp, evQ, R.ev, look, push, commit, vbin, vint, isShift, hw]
theorem loop11 (b : Int) (o l : List Int) (hl : l.length = 9) (hodd : ∀ c ∈ l, (cntI c 8).tmod 2 = 1) : ∀ (d i : Nat) (s : St), i + d = 9 → atHead 0 [1, 5, 6, 20, 21, 22] s = some (e11 b i [], h11 o l) →
    Runs FT noX 0 (loopN k11 0) s (.exit 0) (e11 b 9 [.undef, .undef, .undef, .undef, .undef, .undef, .bool false], h11 o l) := by
  have hloop : loopN k11 0 = .loop [1, 5, 6, 20, 21, 22] (bodyOf (loopN k11 0)) := rfl
  intro d
  induction d with
  | zero =>
    intro i s hd hs
    have : i = 9 := by omega
    subst this
    rw [hloop]
    exact runs_loop_out hs (runs_ev (n := 30) (c := 0) (by kernel_rfl)) (by simp)
  | succ d ih =>
    intro i s hd hs
    have hi : i < l.length := by omega
    have hc := List.getElem?_eq_getElem hi
    have r1 := round11 b i (by omega) o l (l[i]) hc hl (hodd _ (List.getElem_mem hi))
    have r2 := ih (i + 1) _ (by omega) (head11 b (i + 1) o l (l[i]) (cntI (l[i]) 8))
    rw [hloop] at r2 ⊢
    exact runs_loop hs r1 r2
theorem all_tab : ((List.range 256).all fun b => decide (0 ≤ oddI (b : Nat) ∧ oddI (b : Nat) < 256 ∧ (oddI (b : Nat)).fdiv 2 = ((b : Nat) : Int).fdiv 2 ∧ oddI (oddI (b : Nat)) = oddI (b : Nat))) = true := by kernel_rfl
theorem odd_tab (b : Int) (h0 : 0 ≤ b) (h1 : b < 256) : 0 ≤ oddI b ∧ oddI b < 256 ∧ (oddI b).fdiv 2 = b.fdiv 2 ∧ oddI (oddI b) = oddI b := by
  obtain ⟨n, rfl⟩ := Int.eq_ofNat_of_zero_le h0
  exact of_decide_eq_true (List.all_eq_true.1 all_tab n (by simp; omega))
theorem ans26 : Ans FT noX 26 [] [] (.bool true) [] := ⟨200, by kernel_rfl⟩
abbrev f11 (k : List Int) (b : Int) (x2 x4 x5 x6 x20 x21 x22 : V) : Env :=
  [(0, .agg (.ints .u8 k)), (1, .int .u8 b), (2, x2), (4, x4), (5, x5), (6, x6), (8, .tup []), (9, .tup []), (10, .tup []), (20, x20), (21, x21), (22, x22), (23, .tup []), (26, .tup []), (27, .tup []), (39, .tup [])]
theorem headA (k : List Int) (b : Int) (x0 : V) (o l z : List Int) : atHead 0 [1, 5, 6, 20, 21, 22] (f11 k b (.ptr 0 0) (.bool false) (.sl 1 0 8 (some 8) 1) (.int .i64 0) (.sl 3 0 9 none 1) (.int .i64 9) (.int .i64 0), [.cells false (.ints .u8 k), .cells false (.ints .u8 o), .cells false (.ints .u8 z), .cells false (.ints .u8 l)]) = some (e11 b 0 [], h11 o l) := by kernel_rfl
theorem ans11 (a b c d e f g y : Int) (h0 : 0 ≤ y) (h1 : y < 256) : Ans FT noX 11 [.agg (.ints .u8 [a, b, c, d, e, f, g]), .int .u8 y] [] (.bool true) [] := by
  obtain ⟨N1, h26⟩ := ans_at ans26
  obtain ⟨N2, h25⟩ := all_odd
  obtain ⟨N3, h24⟩ := ans_at (ans24 a b c d e f g)
  have h26 := h26 (N1 + N2 + N3) (by omega)
  have h25 := h25 (N1 + N2 + N3) (by omega)
  have h24 := h24 (N1 + N2 + N3) (by omega)
  generalize N1 + N2 + N3 = N at h24 h25 h26
  obtain ⟨t1, t2, t3, t4⟩ := odd_tab y h0 h1
  have h25a := h25 y h0 h1
  have h25b := h25 (oddI y) t1 t2
  rw [t4] at h25b
  have hL : ∀ v ∈ (List.range 8).map (sprI (keyN 0 [a, b, c, d, e, f, g])), (cntI v 8).tmod 2 = 1 := by
    intro v hv
    obtain ⟨i, _, rfl⟩ := List.mem_map.1 hv
    have hr := u8_range (IntKind.u64.wrap ((keyN 0 [a, b, c, d, e, f, g]).fdiv (2 ^ (7 * (7 - i))) * 2 ^ 1))
    exact cnt_odd _ hr.1 hr.2
  have hLl : ((List.range 8).map (sprI (keyN 0 [a, b, c, d, e, f, g]))).length = 8 := by simp
  generalize (List.range 8).map (sprI (keyN 0 [a, b, c, d, e, f, g])) = L at h24 hL hLl
  simp only [outB] at h24
  have hT : L.take 8 = L := by rw [← hLl]; exact List.take_length
  refine ans_of (fn := k11) rfl (by simp [k11]) (e1 := e11 y 9 [.undef, .undef, .bool true, .undef, .undef, .undef, .bool false]) (H1 := h11 L (L ++ [oddI y])) (r := .ret) ?_ (.inr rfl) (rs := [.bool true]) rfl (by kernel_rfl)
  show Runs FT noX 0 (.seq _ (.seq _ (.seq (.seq _ (.block 0 (loopN k11 0))) (.seq _ .ret)))) _ _ _
  refine runs_seq (s1 := (f11 [a, b, c, d, e, f, g] y (.ptr 0 0) (.bool false) (.tup []) (.tup []) (.tup []) (.tup []) (.tup []), [.cells false (.ints .u8 [a, b, c, d, e, f, g])])) (runs_ev (n := 5) (c := 0) (by kernel_rfl))
    (runs_seq (s1 := (f11 [a, b, c, d, e, f, g] y (.ptr 0 0) (.bool false) (.sl 1 0 8 (some 8) 1) (.int .i64 0) (.tup []) (.tup []) (.tup []), [.cells false (.ints .u8 [a, b, c, d, e, f, g]), .cells false (.ints .u8 L)])) (runs_ev (n := 5) (c := N) ?_)
    (runs_seq (runs_seq (s1 := (f11 [a, b, c, d, e, f, g] y (.ptr 0 0) (.bool false) (.sl 1 0 8 (some 8) 1) (.int .i64 0) (.sl 3 0 9 none 1) (.int .i64 9) (.int .i64 0), [.cells false (.ints .u8 [a, b, c, d, e, f, g]), .cells false (.ints .u8 L), .cells false (.ints .u8 [oddI y]), .cells false (.ints .u8 (L ++ [oddI y]))])) (runs_ev (n := 5) (c := N) ?_)
      (runs_block_exit (loop11 y L (L ++ [oddI y]) (by simp [hLl]) ?_ 9 0 _ rfl (headA [a, b, c, d, e, f, g] y .undef L (L ++ [oddI y]) [oddI y])))) (runs_seq (runs_ev (n := 5) (c := N) ?_) runs_ret)))
  · simp [ev, evOps, wants, evOp, evQ, R.ev, look, push, commit, fits, bnds, bndO, bnd, callEv, own24, lend, ren, renB, hasRs, hasRsB, reach, far, deep, blockOf, held, inside, byId, C.len, C.sub, h24]
  · simp [ev, evOps, wants, evOp, evQ, R.ev, look, push, commit, callEv, own25, lend, ren, renB, hasRs, hasRsB, reach, far, deep, blockOf, held, inside, byId, C.len, C.sub, C.app, C.put, putAll, V.cellsC, C.one, tidy, src, h25a, hLl, hT]
  · intro v hv
    rcases List.mem_append.1 hv with hv | hv
    · exact hL v hv
    · have : v = oddI y := by simpa using hv
      subst this; exact cnt_odd y h0 h1
  · simp [ev, evOps, wants, evOp, evQ, R.ev, look, push, commit, vbin, vint, vshift, isShift, IntKind.bits, callEv, own25, own26, lend, ren, renB, hasRs, hasRsB, reach, far, deep, blockOf, held, inside, byId, C.len, h25a, h25b, h26, t3, t4]
end Go.Proofs.YtgjbkgajkcgdfaaE
