/-
  Proved: for every input the law euphroelaw03.BitpOdd returns true, and each argument reads afterwards as it read before ('Rows.BitpOddSaid').
  Conditions: none beyond the statement's own.
  The frame was written by proof-skeleton.mjs; the walk goes by the evaluator of the texts EvA to EvZ, proved sound there.
-/
import Derived.Test.YtgjbkgajkcgdfaaRows
import Derived.Test.YtgjbkgajkcgdfaaEvD3
import Derived.Test.YtgjbkgajkcgdfaaEvLA
import Derived.Test.YtgjbkgajkcgdfaaEvJo
import Derived.WalkKit
import Derived.ProofKit
import Derived.OpenShut
import Derived.ShutString
import Derived.ChangeOld
import Derived.Below
namespace Go.Proofs.Ytgjbkgajkcgdfaa.bitpOdd
open Go.ChangeShapes Go.WideShapes Go.ChangeAt Go.RowKit
open Go.ChangeMaps (open_string shut_string)
set_option linter.unusedVariables false

theorem own : ownKnob Try.prog.godebug = none := by kernel_rfl
theorem laidOut : laidOutB Try.prog = true := by kernel_rfl

open Go.Proofs.YtgjbkgajkcgdfaaE
theorem wf_u8 {n : Int} (h : (Lit.int .u8 n).wf = true) : 0 ≤ n ∧ n < 256 := by
  simp [Lit.wf, IntKind.min, IntKind.max, IntKind.signed, IntKind.bits] at h
  omega
/-- an array of seven bytes, opened -/
theorem open_key {H : Type} {enc : TypeId × Value → H} {W : World} {v : Value} {d : DataW H} {p : List MemPlace} {base : Nat} (ho : Value.okWide Try.prog W .any base 37 v) (h : DataW.Trod enc Try.prog W 0 (fun _ => true) true 37 v d p) :
    ∃ a b c d e f g : Int, v = .agg #[.int .u8 a, .int .u8 b, .int .u8 c, .int .u8 d, .int .u8 e, .int .u8 f, .int .u8 g] := by
  simp only [Value.okWide, Try.underlying37] at ho
  obtain ⟨cs, rfl, hs, _⟩ := ho
  obtain ⟨fuel, hf⟩ := h
  obtain ⟨xs, m, _, _, hl, hx, hi⟩ := DataW.trod_array Try.underlying37 hf
  have h1 : Try.prog.cellsOf 5 = 1 := by kernel_rfl
  have h7 : Try.prog.cellsOf 37 = 7 := by kernel_rfl
  have hcl : cs.toList.length = 7 := by simpa [Value.cells, h7] using hl
  have cell : ∀ i, i < 7 → ∃ a : Int, cs.toList[i]? = some (.int .u8 a) := by
    intro i hi7
    have hq := hi i hi7
    rw [h1] at hq
    obtain ⟨y, hy⟩ : ∃ y, xs[i]? = some y := ⟨_, List.getElem?_eq_getElem (by omega)⟩
    rw [hy] at hq
    obtain ⟨a, he, _⟩ := DataW.trod_int Try.underlying5 hq
    refine ⟨a, ?_⟩
    have h2 := congrArg (fun l => l[0]?) he
    simpa [Value.cells, List.getElem?_take, List.getElem?_drop] using h2
  obtain ⟨a, ha⟩ := cell 0 (by omega)
  obtain ⟨b, hb⟩ := cell 1 (by omega)
  obtain ⟨c, hc⟩ := cell 2 (by omega)
  obtain ⟨d', hd⟩ := cell 3 (by omega)
  obtain ⟨e, he⟩ := cell 4 (by omega)
  obtain ⟨f, hf'⟩ := cell 5 (by omega)
  obtain ⟨g, hg⟩ := cell 6 (by omega)
  refine ⟨a, b, c, d', e, f, g, ?_⟩
  congr 1
  apply Array.ext'
  match hcs : cs.toList, hcl with
  | [x0, x1, x2, x3, x4, x5, x6], _ =>
    rw [hcs] at ha hb hc hd he hf' hg
    simp at ha hb hc hd he hf' hg
    simp [ha, hb, hc, hd, he, hf', hg]
theorem walk (a b c d e f g : Int) (a1 : Int) (w : World) (w1 : (Lit.int .u8 a1).wf = true) :
    Calls Try.prog 4 #[.agg #[.int .u8 a, .int .u8 b, .int .u8 c, .int .u8 d, .int .u8 e, .int .u8 f, .int .u8 g], .int .u8 a1] w fun e w' => e = .returned (.bool true) ∧ Below w.heap.size w w' := by
  obtain ⟨h0, h1⟩ := wf_u8 w1
  refine walk_of (P := Try.prog) (by kernel_rfl) link noX_snd rfl (ans11 a b c d e f g a1 h0 h1) (relVs_cons ?_ (relVs_cons (.int _ _ _) relVs_nil))
  refine .agg _ _ _ rfl (fun j v hv => ?_) (fun j v x hv hx => ?_)
  · simp only [C.get, Option.map_eq_some_iff] at hv
    obtain ⟨_, _, rfl⟩ := hv; rfl
  · match j, hv, hx with
    | 0, hv, hx => simp [C.get] at hv hx; subst hv; subst hx; exact .int _ _ _
    | 1, hv, hx => simp [C.get] at hv hx; subst hv; subst hx; exact .int _ _ _
    | 2, hv, hx => simp [C.get] at hv hx; subst hv; subst hx; exact .int _ _ _
    | 3, hv, hx => simp [C.get] at hv hx; subst hv; subst hx; exact .int _ _ _
    | 4, hv, hx => simp [C.get] at hv hx; subst hv; subst hx; exact .int _ _ _
    | 5, hv, hx => simp [C.get] at hv hx; subst hv; subst hx; exact .int _ _ _
    | 6, hv, hx => simp [C.get] at hv hx; subst hv; subst hx; exact .int _ _ _
    | j + 7, hv, hx => simp [C.get] at hv

/-! ### THE ROW's STEP: WRITTEN OUT: LEAVE IT -/
set_option maxRecDepth 100000 in
theorem lifted (os : Os) (started : os.Started) (H : Type) (enc : TypeId × Value → H) :
    ReturnsInHanded {} Try.checked os 4 .any (Rows.bitpOddSpec.pre6 enc Try.prog Try.f4 Rows.bitpOddRow.domain false) (Rows.bitpOddSpec.post enc Try.prog Try.f4 false true false false) := by
  refine returnsInHanded_of_change (C := Try.checked) own started (by kernel_rfl) Try.func4
    (ChangeSpec.witness6 (enc := enc) (C := Try.checked) false ⟨#[], #[.agg #[.int .u8 0, .int .u8 0, .int .u8 0, .int .u8 0, .int .u8 0, .int .u8 0, .int .u8 0], .int .u8 0], []⟩ 8 (by kernel_rfl) (by kernel_rfl) (by kernel_rfl) (by kernel_rfl)) ?_
  intro W base args ds gs before hval0 hW hcnd _
  have hval : ∀ (j : Nat) t v, Try.f4.params[j]? = some t → args[j]? = some v → Value.okWide Try.prog W .any base t v := hval0
  have hW' := hW
  obtain ⟨p, q, hA0, hV, rfl, hfz, hnd⟩ := hW
  have hA : DataW.TrodAll enc Try.prog W 0 (fun _ => true) true Try.f4.params.toList args.toList ds p := hA0
  rw [Try.params4] at hA hval
  obtain ⟨v0, vs0, d0, ds0, p0, q0, hargs, rfl, rfl, h0, r0⟩ := trodAll_cons hA
  obtain ⟨v1, vs1, d1, ds1, p1, q1, rfl, rfl, rfl, h1, r1⟩ := trodAll_cons r0
  obtain ⟨rfl, rfl, rfl⟩ := trodAll_nil r1
  obtain rfl : args = #[v0, v1] := by cases args; simp_all
  obtain ⟨rfl, rfl⟩ := trodVars_none hV
  have k0 := h0
  have lt0 : ∀ x ∈ p0, x.block < W.heap.size := by obtain ⟨m, hm⟩ := k0; exact DataW.trod_lt m _ _ _ hm
  obtain ⟨a, b, c, d, e, f, g, rfl⟩ := open_key (hval 0 37 v0 rfl rfl) h0
  obtain ⟨a1, rfl, rfl, rfl, w1⟩ := open_int Try.underlying5 (hval 1 5 v1 rfl rfl) h1
  clear hA0 hval0
  refine (walk a b c d e f g a1 W w1).mono fun e W' ⟨he, bel⟩ => ?_
  subst he
  exact ⟨_, rfl, _, _, _, [], _, [], hW', trodAll_mk1 (shut_bool Try.underlying4 _), (trodAll_cons_mk (Below.trod laidOut (by kernel_rfl) (of_decide_eq_true (by kernel_rfl)) k0 bel lt0) (trodAll_cons_mk (shut_int Try.underlying5 w1) trodAll_mk0)), rfl, bel.frame _, fun h => by cases h⟩

theorem over : Rows.bitpOddRow.holds Try.pinned (OpenSpec.ofChange Rows.bitpOddSpec) :=
  OpenClaim.holds_of_wide 4 Try.f4 rfl rfl rfl rfl rfl rfl rfl ⟨rfl, rfl, rfl, rfl, rfl⟩ rfl rfl rfl rfl rfl (by kernel_rfl) Try.func4 (by kernel_rfl)
    (of_decide_eq_true (by kernel_rfl)) (by unfold Func.isWrapper; first | (rw [if_pos (by decide +kernel)]; kernel_rfl) | (rw [if_neg (by decide +kernel)]; exact ⟨rfl, rfl⟩))
    (fun os started H enc _ => lifted os started H enc)

/-- ████ THE STATEMENT ████ -/
theorem proved : Rows.BitpOddSaid := over
#print axioms proved
end Go.Proofs.Ytgjbkgajkcgdfaa.bitpOdd
