/- MD4: words, rounds, blocks. -/
import Derived.Test.YtdlmhclopdkhcaaDoorEvzS3
namespace Go.Proofs.YtdlmhclopdkhcaaDoorE
open Go
set_option linter.unusedSimpArgs false
set_option linter.unusedVariables false
structure S4 where
 a : Nat
 b : Nat
 c : Nat
 d : Nat
def S4.l (s : S4) : List Nat := [s.a, s.b, s.c, s.d]
structure S4.ok (s : S4) : Prop where
 a : s.a < 4294967296
 b : s.b < 4294967296
 c : s.c < 4294967296
 d : s.d < 4294967296
theorem nI4 (s : S4) : nI s.l = [((s.a : Nat) : Int), ((s.b : Nat) : Int), ((s.c : Nat) : Int), ((s.d : Nat) : Int)] := rfl
theorem s4l_len (s : S4) : s.l.length = 4 := by rw [S4.l]; simp only [List.length_cons, List.length_nil]
/-- a step many times -/
def runs {σ : Type} (f : Nat → σ → σ) : Nat → Nat → σ → σ
 | 0, _, s => s
 | d + 1, i, s => runs f d (i + 1) (f i s)
theorem runs_zero {σ : Type} (f : Nat → σ → σ) (i : Nat) (s : σ) : runs f 0 i s = s := rfl
theorem runs_succ {σ : Type} (f : Nat → σ → σ) (d i : Nat) (s : σ) : runs f (d + 1) i s = runs f d (i + 1) (f i s) := rfl
theorem runs_ok {σ : Type} {f : Nat → σ → σ} {P : σ → Prop} (h : ∀ i s, P s → P (f i s)) : ∀ (d i : Nat) (s : σ), P s → P (runs f d i s) := by
 intro d
 induction d with
 | zero => intro i s hs; rw [runs_zero]; exact hs
 | succ d ih => intro i s hs; rw [runs_succ]; exact ih _ _ (h i s hs)
theorem runs_add {σ : Type} (f : Nat → σ → σ) : ∀ (d e i : Nat) (s : σ), runs f (d + e) i s = runs f e (i + d) (runs f d i s) := by
 intro d
 induction d with
 | zero => intro e i s; rw [runs_zero, Nat.zero_add, Nat.add_zero]
 | succ d ih => intro e i s; rw [Nat.succ_add, runs_succ, runs_succ, ih]; congr 1; omega
theorem runs_congr {σ : Type} {f g : Nat → σ → σ} : ∀ (d i j : Nat) (s : σ), (∀ k s, k < d → f (i + k) s = g (j + k) s) → runs f d i s = runs g d j s := by
 intro d
 induction d with
 | zero => intro i j s _; rfl
 | succ d ih =>
  intro i j s h
  rw [runs_succ, runs_succ, show f i s = g j s from h 0 s (by omega)]
  exact ih (i + 1) (j + 1) _ (fun k s hk => by have := h (k + 1) s (by omega); rw [show i + (k + 1) = i + 1 + k by omega, show j + (k + 1) = j + 1 + k by omega] at this; exact this)
def m4f (r b c d : Nat) : Nat := if r = 0 then ch b c d else if r = 1 then maj b c d else (b ^^^ c) ^^^ d
def m4P : List Nat := [0, 1, 2, 3, 4, 5, 6, 7, 8, 9, 10, 11, 12, 13, 14, 15, 0, 4, 8, 12, 1, 5, 9, 13, 2, 6, 10, 14, 3, 7, 11, 15, 0, 8, 4, 12, 2, 10, 6, 14, 1, 9, 5, 13, 3, 11, 7, 15]
def m4C : List Nat := [0, 1518500249, 1859775393]
def m4T : List (List Nat) := [[3, 7, 11, 19], [3, 5, 9, 13], [3, 9, 11, 15]]
/-- a step: its round, the word, the constant, the turn -/
def m4step (r x c n : Nat) (s : S4) : S4 := ⟨s.d, rotl ((((s.a + m4f r s.b s.c s.d) % 4294967296 + x) % 4294967296 + c) % 4294967296) n, s.b, s.c⟩
theorem m4step_ok {r x c n : Nat} {s : S4} (h : s.ok) : (m4step r x c n s).ok := by rw [m4step]; exact ⟨h.d, rotl_lt (mod32 _), h.b, h.c⟩
def m4st (X : List Nat) (i : Nat) (s : S4) : S4 := m4step (i / 16) (gt X (gt m4P i)) (gt m4C (i / 16)) (gt (m4T.getD (i / 16) []) (i % 4)) s
theorem m4st_ok {X : List Nat} {i : Nat} {s : S4} (h : s.ok) : (m4st X i s).ok := by rw [m4st]; exact m4step_ok h
theorem m4step_nI (r x c n : Nat) (s : S4) : nI (m4step r x c n s).l = [((s.d : Nat) : Int), ((rotl ((((s.a + m4f r s.b s.c s.d) % 4294967296 + x) % 4294967296 + c) % 4294967296) n : Nat) : Int), ((s.b : Nat) : Int), ((s.c : Nat) : Int)] := by rw [m4step, nI4]
section
variable {c192 : List Int → Option (List Int)} {d193v0 : Option (((Int × (Int × (Int × (Int × (Int × (Int × (Int × (Int × (Int × (Int × (Int × (Int × (Int × (Int × (Int × (Int × (Int × (Int × (Int × (Int × (Int × (Int × (Int × (Int × (Int × (Int × (Int × (Int × (Int × (Int × (Int × (Int × (Int × (Int × (Int × (Int × (Int × (Int × (Int × (Int × (Int × (Int × (Int × (Int × (Int × (Int × (Int × (Int × (Int × (Int × (Int × (Int × (Int × (Int × (Int × (Int × (Int × (Int × (Int × (Int × (Int × (Int × (Int × Unit))))))))))))))))))))))))))))))))))))))))))))))))))))))))))))))) × Unit) × Unit)} {c194 : Int → Int → Int → Int → Option Int} {c195 : Int → Int → Option Int}
set_option maxHeartbeats 4000000 in
theorem L174_1_is (R : ∀ x n : Nat, x < 4294967296 → n < 32 → c195 (x : Int) (n : Int) = some ((rotl x n : Nat) : Int)) (r : Nat) (F : ∀ b c d : Nat, b < 4294967296 → c < 4294967296 → d < 4294967296 → c194 (r : Int) (b : Int) (c : Int) (d : Int) = some ((m4f r b c d : Nat) : Int))
  (N : Nat) (Pl X : List Nat) (hP : Pl.length = 16) (hPb : bel 16 Pl) (hX : X.length = 16) (co t0 t1 t2 t3 : Nat) (h0 : t0 < 32) (h1 : t1 < 32) (h2 : t2 < 32) (h3 : t3 < 32)
  (q : Int → Int → Int → Int → Int → Int → Int → Int → Int → Int → Int → Int → Int → Int → Int → Int → Int → Int → Int → Int → Int → Int → Int → Int → Int → Int → Int → Int → Int → Int → Int → Int → Int → Int → Int → Int → Int → Int → Int → Int → Int → Int → Int → Int → Int → Int → Int → Int → Int → Int → Int → Int → Int → Int → Int → Int → Int → Int → Int → Int → Int → Int → Int → Int → List Int → List Int → List Int → List Int → Option (List Int)) (v72 v73 v74 v75 v76 v77 v78 v79 v80 v81 v82 v83 v84 v85 v86 v87 v88 v89 v90 v91 v92 v93 v94 v95 v96 v97 v98 v99 v100 v101 v102 v103 v104 v105 v106 v107 v108 v109 v110 v111 v112 v113 v114 v115 v116 v117 v118 v119 v120 v121 v122 v123 v124 v125 v126 v127 v128 v129 v130 v131 v132 v133 v134 v135 v147 v148 v149 v150 v151 v152 v153 v154 v155 v156 v157 v158 v159 v160 v161 v162 : Int) (v138 v139 : List Int) :
  ∀ (d i fuel : Nat) (s : S4), i + d = 16 → d < fuel → s.ok → L174_1 c192 d193v0 c194 c195 N q fuel (r : Int) v72 v73 v74 v75 v76 v77 v78 v79 v80 v81 v82 v83 v84 v85 v86 v87 v88 v89 v90 v91 v92 v93 v94 v95 v96 v97 v98 v99 v100 v101 v102 v103 v104 v105 v106 v107 v108 v109 v110 v111 v112 v113 v114 v115 v116 v117 v118 v119 v120 v121 v122 v123 v124 v125 v126 v127 v128 v129 v130 v131 v132 v133 v134 v135 (nI Pl) (i : Int) v138 v139 (nI X) (nI s.l) (co : Int) (t0 : Int) (t1 : Int) (t2 : Int) (t3 : Int) v147 v148 v149 v150 v151 v152 v153 v154 v155 v156 v157 v158 v159 v160 v161 v162 = q v72 v73 v74 v75 v76 v77 v78 v79 v80 v81 v82 v83 v84 v85 v86 v87 v88 v89 v90 v91 v92 v93 v94 v95 v96 v97 v98 v99 v100 v101 v102 v103 v104 v105 v106 v107 v108 v109 v110 v111 v112 v113 v114 v115 v116 v117 v118 v119 v120 v121 v122 v123 v124 v125 v126 v127 v128 v129 v130 v131 v132 v133 v134 v135 v138 v139 (nI X) (nI (runs (fun i s => m4step r (gt X (gt Pl i)) co (gt [t0, t1, t2, t3] (i % 4)) s) d i s).l) := by
 intro d
 induction d with
 | zero =>
  intro i fuel s hd hf hs
  obtain ⟨m, rfl⟩ : ∃ m, fuel = m + 1 := ⟨fuel - 1, by omega⟩
  obtain rfl : i = 16 := by omega
  rw [runs_zero]
  simp only [L174_1, show ¬ (((16 : Nat) : Int) < 16) by omega, decide_false, cond_false]
 | succ d ih =>
  intro i fuel s hd hf hs
  obtain ⟨m, rfl⟩ : ∃ m, fuel = m + 1 := ⟨fuel - 1, by omega⟩
  have hp := getn (l := Pl) (i := i) (by omega)
  have hpl := bel_gt hPb (i := i) (by omega)
  have hx := getn (l := X) (i := gt Pl i) (by omega)
  have key := ih (i + 1) m (m4step r (gt X (gt Pl i)) co (gt [t0, t1, t2, t3] (i % 4)) s) (by omega) (by omega) (m4step_ok hs)
  rw [m4step_nI] at key
  have e4 : irem (i : Int) 4 = ((i % 4 : Nat) : Int) := irem_n i 4
  have f1 := F s.b s.c s.d hs.b hs.c hs.d
  have hr := R ((((s.a + m4f r s.b s.c s.d) % 4294967296 + gt X (gt Pl i)) % 4294967296 + co) % 4294967296)
  rw [runs_succ, nI4]
  have hq : i % 4 = 0 ∨ i % 4 = 1 ∨ i % 4 = 2 ∨ i % 4 = 3 := by omega
  rcases hq with h | h | h | h
  ·have hg : gt [t0, t1, t2, t3] (i % 4) = t0 := by rw [h]; rfl
   rw [hg] at key ⊢
   have hrr := hr t0 (mod32 _) h0
   rw [h] at e4
   simp only [L174_1, show (i : Int) < 16 by omega, show (0 : Int) ≤ (i : Int) by omega, decide_true, Bool.and_self, cond_true, Int.toNat_natCast, Nat.mul_one, Nat.zero_add, hp, List.getElem?_cons_zero, List.getElem?_cons_succ, f1, show (0 : Int) ≤ ((gt Pl i : Nat) : Int) by omega, show ((gt Pl i : Nat) : Int) < 16 by omega, hx, e4, show (0 : Int) ≤ ((0 : Nat) : Int) by omega, show ((0 : Nat) : Int) < 4 by omega, show Nat.beq (1 + 0) 0 = false from rfl, show Nat.beq (1 + 0) 1 = true from rfl, cond_false, add32, hrr, List.length_cons, List.length_nil, Nat.le_refl, take0, List.nil_append, List.drop_succ_cons, List.drop_zero, List.append_nil]
   rw [up1 (by omega)]
   exact key
  ·have hg : gt [t0, t1, t2, t3] (i % 4) = t1 := by rw [h]; rfl
   rw [hg] at key ⊢
   have hrr := hr t1 (mod32 _) h1
   rw [h] at e4
   simp only [L174_1, show (i : Int) < 16 by omega, show (0 : Int) ≤ (i : Int) by omega, decide_true, Bool.and_self, cond_true, Int.toNat_natCast, Nat.mul_one, Nat.zero_add, hp, List.getElem?_cons_zero, List.getElem?_cons_succ, f1, show (0 : Int) ≤ ((gt Pl i : Nat) : Int) by omega, show ((gt Pl i : Nat) : Int) < 16 by omega, hx, e4, show (0 : Int) ≤ ((1 : Nat) : Int) by omega, show ((1 : Nat) : Int) < 4 by omega, show Nat.beq (1 + 1) 0 = false from rfl, show Nat.beq (1 + 1) 1 = false from rfl, show Nat.beq (1 + 1) 2 = true from rfl, cond_false, add32, hrr, List.length_cons, List.length_nil, Nat.le_refl, take0, List.nil_append, List.drop_succ_cons, List.drop_zero, List.append_nil]
   rw [up1 (by omega)]
   exact key
  ·have hg : gt [t0, t1, t2, t3] (i % 4) = t2 := by rw [h]; rfl
   rw [hg] at key ⊢
   have hrr := hr t2 (mod32 _) h2
   rw [h] at e4
   simp only [L174_1, show (i : Int) < 16 by omega, show (0 : Int) ≤ (i : Int) by omega, decide_true, Bool.and_self, cond_true, Int.toNat_natCast, Nat.mul_one, Nat.zero_add, hp, List.getElem?_cons_zero, List.getElem?_cons_succ, f1, show (0 : Int) ≤ ((gt Pl i : Nat) : Int) by omega, show ((gt Pl i : Nat) : Int) < 16 by omega, hx, e4, show (0 : Int) ≤ ((2 : Nat) : Int) by omega, show ((2 : Nat) : Int) < 4 by omega, show Nat.beq (1 + 2) 0 = false from rfl, show Nat.beq (1 + 2) 1 = false from rfl, show Nat.beq (1 + 2) 2 = false from rfl, show Nat.beq (1 + 2) 3 = true from rfl, cond_false, add32, hrr, List.length_cons, List.length_nil, Nat.le_refl, take0, List.nil_append, List.drop_succ_cons, List.drop_zero, List.append_nil]
   rw [up1 (by omega)]
   exact key
  ·have hg : gt [t0, t1, t2, t3] (i % 4) = t3 := by rw [h]; rfl
   rw [hg] at key ⊢
   have hrr := hr t3 (mod32 _) h3
   rw [h] at e4
   simp only [L174_1, show (i : Int) < 16 by omega, show (0 : Int) ≤ (i : Int) by omega, decide_true, Bool.and_self, cond_true, Int.toNat_natCast, Nat.mul_one, Nat.zero_add, hp, List.getElem?_cons_zero, List.getElem?_cons_succ, f1, show (0 : Int) ≤ ((gt Pl i : Nat) : Int) by omega, show ((gt Pl i : Nat) : Int) < 16 by omega, hx, e4, show (0 : Int) ≤ ((3 : Nat) : Int) by omega, show ((3 : Nat) : Int) < 4 by omega, show Nat.beq (1 + 3) 0 = false from rfl, show Nat.beq (1 + 3) 1 = false from rfl, show Nat.beq (1 + 3) 2 = false from rfl, show Nat.beq (1 + 3) 3 = false from rfl, show Nat.beq (1 + 3) 4 = true from rfl, cond_false, add32, hrr, List.length_cons, List.length_nil, Nat.le_refl, take0, List.nil_append, List.drop_succ_cons, List.drop_zero, List.append_nil]
   rw [up1 (by omega)]
   exact key
theorem L174_1_at (R : ∀ x n : Nat, x < 4294967296 → n < 32 → c195 (x : Int) (n : Int) = some ((rotl x n : Nat) : Int)) (r : Nat) (F : ∀ b c d : Nat, b < 4294967296 → c < 4294967296 → d < 4294967296 → c194 (r : Int) (b : Int) (c : Int) (d : Int) = some ((m4f r b c d : Nat) : Int))
  (Pl X : List Nat) (hP : Pl.length = 16) (hPb : bel 16 Pl) (hX : X.length = 16) (co t0 t1 t2 t3 : Nat) (h0 : t0 < 32) (h1 : t1 < 32) (h2 : t2 < 32) (h3 : t3 < 32)
  (q : Int → Int → Int → Int → Int → Int → Int → Int → Int → Int → Int → Int → Int → Int → Int → Int → Int → Int → Int → Int → Int → Int → Int → Int → Int → Int → Int → Int → Int → Int → Int → Int → Int → Int → Int → Int → Int → Int → Int → Int → Int → Int → Int → Int → Int → Int → Int → Int → Int → Int → Int → Int → Int → Int → Int → Int → Int → Int → Int → Int → Int → Int → Int → Int → List Int → List Int → List Int → List Int → Option (List Int)) (v72 v73 v74 v75 v76 v77 v78 v79 v80 v81 v82 v83 v84 v85 v86 v87 v88 v89 v90 v91 v92 v93 v94 v95 v96 v97 v98 v99 v100 v101 v102 v103 v104 v105 v106 v107 v108 v109 v110 v111 v112 v113 v114 v115 v116 v117 v118 v119 v120 v121 v122 v123 v124 v125 v126 v127 v128 v129 v130 v131 v132 v133 v134 v135 v147 v148 v149 v150 v151 v152 v153 v154 v155 v156 v157 v158 v159 v160 v161 v162 : Int) (v138 v139 : List Int) (s : S4) (hs : s.ok) (ri ci u0 u1 u2 u3 : Int) (PI : List Int) (er : ri = (r : Int)) (ec : ci = (co : Int)) (e0 : u0 = (t0 : Int)) (e1 : u1 = (t1 : Int)) (e2 : u2 = (t2 : Int)) (e3 : u3 = (t3 : Int)) (ep : PI = nI Pl) :
  L174_1 c192 d193v0 c194 c195 100 q 100 ri v72 v73 v74 v75 v76 v77 v78 v79 v80 v81 v82 v83 v84 v85 v86 v87 v88 v89 v90 v91 v92 v93 v94 v95 v96 v97 v98 v99 v100 v101 v102 v103 v104 v105 v106 v107 v108 v109 v110 v111 v112 v113 v114 v115 v116 v117 v118 v119 v120 v121 v122 v123 v124 v125 v126 v127 v128 v129 v130 v131 v132 v133 v134 v135 PI (0 : Int) v138 v139 (nI X) (nI s.l) ci u0 u1 u2 u3 v147 v148 v149 v150 v151 v152 v153 v154 v155 v156 v157 v158 v159 v160 v161 v162 = q v72 v73 v74 v75 v76 v77 v78 v79 v80 v81 v82 v83 v84 v85 v86 v87 v88 v89 v90 v91 v92 v93 v94 v95 v96 v97 v98 v99 v100 v101 v102 v103 v104 v105 v106 v107 v108 v109 v110 v111 v112 v113 v114 v115 v116 v117 v118 v119 v120 v121 v122 v123 v124 v125 v126 v127 v128 v129 v130 v131 v132 v133 v134 v135 v138 v139 (nI X) (nI (runs (fun i s => m4step r (gt X (gt Pl i)) co (gt [t0, t1, t2, t3] (i % 4)) s) 16 0 s).l) := by
 subst er ec e0 e1 e2 e3 ep
 have := L174_1_is (d193v0 := d193v0) (c192 := c192) R r F 100 Pl X hP hPb hX co t0 t1 t2 t3 h0 h1 h2 h3 q v72 v73 v74 v75 v76 v77 v78 v79 v80 v81 v82 v83 v84 v85 v86 v87 v88 v89 v90 v91 v92 v93 v94 v95 v96 v97 v98 v99 v100 v101 v102 v103 v104 v105 v106 v107 v108 v109 v110 v111 v112 v113 v114 v115 v116 v117 v118 v119 v120 v121 v122 v123 v124 v125 v126 v127 v128 v129 v130 v131 v132 v133 v134 v135 v147 v148 v149 v150 v151 v152 v153 v154 v155 v156 v157 v158 v159 v160 v161 v162 v138 v139 16 0 100 s (by omega) (by omega) hs
 exact this
theorem L174_0_0 (q : List Int → List Int → List Int → Option (List Int)) (m : Nat) (v67 v68 v69 v70 : List Int) : L174_0 c192 d193v0 c194 c195 100 q (m + 1) (0 : Int) (3 : Int) (7 : Int) (11 : Int) (19 : Int) (0 : Int) (1 : Int) (2 : Int) (3 : Int) (4 : Int) (5 : Int) (6 : Int) (7 : Int) (8 : Int) (9 : Int) (10 : Int) (11 : Int) (12 : Int) (13 : Int) (14 : Int) (15 : Int) (1518500249 : Int) (3 : Int) (5 : Int) (9 : Int) (13 : Int) (0 : Int) (4 : Int) (8 : Int) (12 : Int) (1 : Int) (5 : Int) (9 : Int) (13 : Int) (2 : Int) (6 : Int) (10 : Int) (14 : Int) (3 : Int) (7 : Int) (11 : Int) (15 : Int) (1859775393 : Int) (3 : Int) (9 : Int) (11 : Int) (15 : Int) (0 : Int) (8 : Int) (4 : Int) (12 : Int) (2 : Int) (10 : Int) (6 : Int) (14 : Int) (1 : Int) (9 : Int) (5 : Int) (13 : Int) (3 : Int) (11 : Int) (7 : Int) (15 : Int) (0 : Int) v67 v68 v69 v70 =
 L174_1 c192 d193v0 c194 c195 100 (fun (y231 : Int) (y232 : Int) (y233 : Int) (y234 : Int) (y235 : Int) (y236 : Int) (y237 : Int) (y238 : Int) (y239 : Int) (y240 : Int) (y241 : Int) (y242 : Int) (y243 : Int) (y244 : Int) (y245 : Int) (y246 : Int) (y247 : Int) (y248 : Int) (y249 : Int) (y250 : Int) (y251 : Int) (y252 : Int) (y253 : Int) (y254 : Int) (y255 : Int) (y256 : Int) (y257 : Int) (y258 : Int) (y259 : Int) (y260 : Int) (y261 : Int) (y262 : Int) (y263 : Int) (y264 : Int) (y265 : Int) (y266 : Int) (y267 : Int) (y268 : Int) (y269 : Int) (y270 : Int) (y271 : Int) (y272 : Int) (y273 : Int) (y274 : Int) (y275 : Int) (y276 : Int) (y277 : Int) (y278 : Int) (y279 : Int) (y280 : Int) (y281 : Int) (y282 : Int) (y283 : Int) (y284 : Int) (y285 : Int) (y286 : Int) (y287 : Int) (y288 : Int) (y289 : Int) (y290 : Int) (y291 : Int) (y292 : Int) (y293 : Int) (y294 : Int) (y295 : List Int) (y296 : List Int) (y297 : List Int) (y298 : List Int) =>
L174_0 c192 d193v0 c194 c195 100 q m y231 y232 y233 y234 y235 y236 y237 y238 y239 y240 y241 y242 y243 y244 y245 y246 y247 y248 y249 y250 y251 y252 y253 y254 y255 y256 y257 y258 y259 y260 y261 y262 y263 y264 y265 y266 y267 y268 y269 y270 y271 y272 y273 y274 y275 y276 y277 y278 y279 y280 y281 y282 y283 y284 y285 y286 y287 y288 y289 y290 y291 y292 y293 (iadd .i64 y294 (1 : Int)) y295 y296 y297 y298) 100 (0 : Int) (0 : Int) (3 : Int) (7 : Int) (11 : Int) (19 : Int) (0 : Int) (1 : Int) (2 : Int) (3 : Int) (4 : Int) (5 : Int) (6 : Int) (7 : Int) (8 : Int) (9 : Int) (10 : Int) (11 : Int) (12 : Int) (13 : Int) (14 : Int) (15 : Int) (1518500249 : Int) (3 : Int) (5 : Int) (9 : Int) (13 : Int) (0 : Int) (4 : Int) (8 : Int) (12 : Int) (1 : Int) (5 : Int) (9 : Int) (13 : Int) (2 : Int) (6 : Int) (10 : Int) (14 : Int) (3 : Int) (7 : Int) (11 : Int) (15 : Int) (1859775393 : Int) (3 : Int) (9 : Int) (11 : Int) (15 : Int) (0 : Int) (8 : Int) (4 : Int) (12 : Int) (2 : Int) (10 : Int) (6 : Int) (14 : Int) (1 : Int) (9 : Int) (5 : Int) (13 : Int) (3 : Int) (11 : Int) (7 : Int) (15 : Int) (0 : Int) ([(0 : Int), (1 : Int), (2 : Int), (3 : Int), (4 : Int), (5 : Int), (6 : Int), (7 : Int), (8 : Int), (9 : Int), (10 : Int), (11 : Int), (12 : Int), (13 : Int), (14 : Int), (15 : Int)] : List Int) (0 : Int) v67 v68 v69 v70 (0 : Int) (3 : Int) (7 : Int) (11 : Int) (19 : Int) (0 : Int) (1 : Int) (2 : Int) (3 : Int) (4 : Int) (5 : Int) (6 : Int) (7 : Int) (8 : Int) (9 : Int) (10 : Int) (11 : Int) (12 : Int) (13 : Int) (14 : Int) (15 : Int) := by kernel_rfl
theorem L174_0_1 (q : List Int → List Int → List Int → Option (List Int)) (m : Nat) (v67 v68 v69 v70 : List Int) : L174_0 c192 d193v0 c194 c195 100 q (m + 1) (0 : Int) (3 : Int) (7 : Int) (11 : Int) (19 : Int) (0 : Int) (1 : Int) (2 : Int) (3 : Int) (4 : Int) (5 : Int) (6 : Int) (7 : Int) (8 : Int) (9 : Int) (10 : Int) (11 : Int) (12 : Int) (13 : Int) (14 : Int) (15 : Int) (1518500249 : Int) (3 : Int) (5 : Int) (9 : Int) (13 : Int) (0 : Int) (4 : Int) (8 : Int) (12 : Int) (1 : Int) (5 : Int) (9 : Int) (13 : Int) (2 : Int) (6 : Int) (10 : Int) (14 : Int) (3 : Int) (7 : Int) (11 : Int) (15 : Int) (1859775393 : Int) (3 : Int) (9 : Int) (11 : Int) (15 : Int) (0 : Int) (8 : Int) (4 : Int) (12 : Int) (2 : Int) (10 : Int) (6 : Int) (14 : Int) (1 : Int) (9 : Int) (5 : Int) (13 : Int) (3 : Int) (11 : Int) (7 : Int) (15 : Int) (iadd .i64 (0 : Int) (1 : Int)) v67 v68 v69 v70 =
 L174_1 c192 d193v0 c194 c195 100 (fun (y299 : Int) (y300 : Int) (y301 : Int) (y302 : Int) (y303 : Int) (y304 : Int) (y305 : Int) (y306 : Int) (y307 : Int) (y308 : Int) (y309 : Int) (y310 : Int) (y311 : Int) (y312 : Int) (y313 : Int) (y314 : Int) (y315 : Int) (y316 : Int) (y317 : Int) (y318 : Int) (y319 : Int) (y320 : Int) (y321 : Int) (y322 : Int) (y323 : Int) (y324 : Int) (y325 : Int) (y326 : Int) (y327 : Int) (y328 : Int) (y329 : Int) (y330 : Int) (y331 : Int) (y332 : Int) (y333 : Int) (y334 : Int) (y335 : Int) (y336 : Int) (y337 : Int) (y338 : Int) (y339 : Int) (y340 : Int) (y341 : Int) (y342 : Int) (y343 : Int) (y344 : Int) (y345 : Int) (y346 : Int) (y347 : Int) (y348 : Int) (y349 : Int) (y350 : Int) (y351 : Int) (y352 : Int) (y353 : Int) (y354 : Int) (y355 : Int) (y356 : Int) (y357 : Int) (y358 : Int) (y359 : Int) (y360 : Int) (y361 : Int) (y362 : Int) (y363 : List Int) (y364 : List Int) (y365 : List Int) (y366 : List Int) =>
L174_0 c192 d193v0 c194 c195 100 q m y299 y300 y301 y302 y303 y304 y305 y306 y307 y308 y309 y310 y311 y312 y313 y314 y315 y316 y317 y318 y319 y320 y321 y322 y323 y324 y325 y326 y327 y328 y329 y330 y331 y332 y333 y334 y335 y336 y337 y338 y339 y340 y341 y342 y343 y344 y345 y346 y347 y348 y349 y350 y351 y352 y353 y354 y355 y356 y357 y358 y359 y360 y361 (iadd .i64 y362 (1 : Int)) y363 y364 y365 y366) 100 (1 : Int) (0 : Int) (3 : Int) (7 : Int) (11 : Int) (19 : Int) (0 : Int) (1 : Int) (2 : Int) (3 : Int) (4 : Int) (5 : Int) (6 : Int) (7 : Int) (8 : Int) (9 : Int) (10 : Int) (11 : Int) (12 : Int) (13 : Int) (14 : Int) (15 : Int) (1518500249 : Int) (3 : Int) (5 : Int) (9 : Int) (13 : Int) (0 : Int) (4 : Int) (8 : Int) (12 : Int) (1 : Int) (5 : Int) (9 : Int) (13 : Int) (2 : Int) (6 : Int) (10 : Int) (14 : Int) (3 : Int) (7 : Int) (11 : Int) (15 : Int) (1859775393 : Int) (3 : Int) (9 : Int) (11 : Int) (15 : Int) (0 : Int) (8 : Int) (4 : Int) (12 : Int) (2 : Int) (10 : Int) (6 : Int) (14 : Int) (1 : Int) (9 : Int) (5 : Int) (13 : Int) (3 : Int) (11 : Int) (7 : Int) (15 : Int) (1 : Int) ([(0 : Int), (4 : Int), (8 : Int), (12 : Int), (1 : Int), (5 : Int), (9 : Int), (13 : Int), (2 : Int), (6 : Int), (10 : Int), (14 : Int), (3 : Int), (7 : Int), (11 : Int), (15 : Int)] : List Int) (0 : Int) v67 v68 v69 v70 (1518500249 : Int) (3 : Int) (5 : Int) (9 : Int) (13 : Int) (0 : Int) (4 : Int) (8 : Int) (12 : Int) (1 : Int) (5 : Int) (9 : Int) (13 : Int) (2 : Int) (6 : Int) (10 : Int) (14 : Int) (3 : Int) (7 : Int) (11 : Int) (15 : Int) := by kernel_rfl
theorem L174_0_2 (q : List Int → List Int → List Int → Option (List Int)) (m : Nat) (v67 v68 v69 v70 : List Int) : L174_0 c192 d193v0 c194 c195 100 q (m + 1) (0 : Int) (3 : Int) (7 : Int) (11 : Int) (19 : Int) (0 : Int) (1 : Int) (2 : Int) (3 : Int) (4 : Int) (5 : Int) (6 : Int) (7 : Int) (8 : Int) (9 : Int) (10 : Int) (11 : Int) (12 : Int) (13 : Int) (14 : Int) (15 : Int) (1518500249 : Int) (3 : Int) (5 : Int) (9 : Int) (13 : Int) (0 : Int) (4 : Int) (8 : Int) (12 : Int) (1 : Int) (5 : Int) (9 : Int) (13 : Int) (2 : Int) (6 : Int) (10 : Int) (14 : Int) (3 : Int) (7 : Int) (11 : Int) (15 : Int) (1859775393 : Int) (3 : Int) (9 : Int) (11 : Int) (15 : Int) (0 : Int) (8 : Int) (4 : Int) (12 : Int) (2 : Int) (10 : Int) (6 : Int) (14 : Int) (1 : Int) (9 : Int) (5 : Int) (13 : Int) (3 : Int) (11 : Int) (7 : Int) (15 : Int) (iadd .i64 (1 : Int) (1 : Int)) v67 v68 v69 v70 =
 L174_1 c192 d193v0 c194 c195 100 (fun (y367 : Int) (y368 : Int) (y369 : Int) (y370 : Int) (y371 : Int) (y372 : Int) (y373 : Int) (y374 : Int) (y375 : Int) (y376 : Int) (y377 : Int) (y378 : Int) (y379 : Int) (y380 : Int) (y381 : Int) (y382 : Int) (y383 : Int) (y384 : Int) (y385 : Int) (y386 : Int) (y387 : Int) (y388 : Int) (y389 : Int) (y390 : Int) (y391 : Int) (y392 : Int) (y393 : Int) (y394 : Int) (y395 : Int) (y396 : Int) (y397 : Int) (y398 : Int) (y399 : Int) (y400 : Int) (y401 : Int) (y402 : Int) (y403 : Int) (y404 : Int) (y405 : Int) (y406 : Int) (y407 : Int) (y408 : Int) (y409 : Int) (y410 : Int) (y411 : Int) (y412 : Int) (y413 : Int) (y414 : Int) (y415 : Int) (y416 : Int) (y417 : Int) (y418 : Int) (y419 : Int) (y420 : Int) (y421 : Int) (y422 : Int) (y423 : Int) (y424 : Int) (y425 : Int) (y426 : Int) (y427 : Int) (y428 : Int) (y429 : Int) (y430 : Int) (y431 : List Int) (y432 : List Int) (y433 : List Int) (y434 : List Int) =>
L174_0 c192 d193v0 c194 c195 100 q m y367 y368 y369 y370 y371 y372 y373 y374 y375 y376 y377 y378 y379 y380 y381 y382 y383 y384 y385 y386 y387 y388 y389 y390 y391 y392 y393 y394 y395 y396 y397 y398 y399 y400 y401 y402 y403 y404 y405 y406 y407 y408 y409 y410 y411 y412 y413 y414 y415 y416 y417 y418 y419 y420 y421 y422 y423 y424 y425 y426 y427 y428 y429 (iadd .i64 y430 (1 : Int)) y431 y432 y433 y434) 100 (2 : Int) (0 : Int) (3 : Int) (7 : Int) (11 : Int) (19 : Int) (0 : Int) (1 : Int) (2 : Int) (3 : Int) (4 : Int) (5 : Int) (6 : Int) (7 : Int) (8 : Int) (9 : Int) (10 : Int) (11 : Int) (12 : Int) (13 : Int) (14 : Int) (15 : Int) (1518500249 : Int) (3 : Int) (5 : Int) (9 : Int) (13 : Int) (0 : Int) (4 : Int) (8 : Int) (12 : Int) (1 : Int) (5 : Int) (9 : Int) (13 : Int) (2 : Int) (6 : Int) (10 : Int) (14 : Int) (3 : Int) (7 : Int) (11 : Int) (15 : Int) (1859775393 : Int) (3 : Int) (9 : Int) (11 : Int) (15 : Int) (0 : Int) (8 : Int) (4 : Int) (12 : Int) (2 : Int) (10 : Int) (6 : Int) (14 : Int) (1 : Int) (9 : Int) (5 : Int) (13 : Int) (3 : Int) (11 : Int) (7 : Int) (15 : Int) (2 : Int) ([(0 : Int), (8 : Int), (4 : Int), (12 : Int), (2 : Int), (10 : Int), (6 : Int), (14 : Int), (1 : Int), (9 : Int), (5 : Int), (13 : Int), (3 : Int), (11 : Int), (7 : Int), (15 : Int)] : List Int) (0 : Int) v67 v68 v69 v70 (1859775393 : Int) (3 : Int) (9 : Int) (11 : Int) (15 : Int) (0 : Int) (8 : Int) (4 : Int) (12 : Int) (2 : Int) (10 : Int) (6 : Int) (14 : Int) (1 : Int) (9 : Int) (5 : Int) (13 : Int) (3 : Int) (11 : Int) (7 : Int) (15 : Int) := by kernel_rfl
theorem L174_0_3 (q : List Int → List Int → List Int → Option (List Int)) (m : Nat) (v67 v68 v69 v70 : List Int) : L174_0 c192 d193v0 c194 c195 100 q (m + 1) (0 : Int) (3 : Int) (7 : Int) (11 : Int) (19 : Int) (0 : Int) (1 : Int) (2 : Int) (3 : Int) (4 : Int) (5 : Int) (6 : Int) (7 : Int) (8 : Int) (9 : Int) (10 : Int) (11 : Int) (12 : Int) (13 : Int) (14 : Int) (15 : Int) (1518500249 : Int) (3 : Int) (5 : Int) (9 : Int) (13 : Int) (0 : Int) (4 : Int) (8 : Int) (12 : Int) (1 : Int) (5 : Int) (9 : Int) (13 : Int) (2 : Int) (6 : Int) (10 : Int) (14 : Int) (3 : Int) (7 : Int) (11 : Int) (15 : Int) (1859775393 : Int) (3 : Int) (9 : Int) (11 : Int) (15 : Int) (0 : Int) (8 : Int) (4 : Int) (12 : Int) (2 : Int) (10 : Int) (6 : Int) (14 : Int) (1 : Int) (9 : Int) (5 : Int) (13 : Int) (3 : Int) (11 : Int) (7 : Int) (15 : Int) (iadd .i64 (2 : Int) (1 : Int)) v67 v68 v69 v70 = q v67 v68 v70 := by kernel_rfl
end
end Go.Proofs.YtdlmhclopdkhcaaDoorE
