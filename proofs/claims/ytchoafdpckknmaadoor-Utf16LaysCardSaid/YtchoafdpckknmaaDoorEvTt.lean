/- The tables stand as the row lists them. -/
import Derived.Test.YtchoafdpckknmaaDoorRows
import Derived.Test.YtchoafdpckknmaaDoorEvJo
import Derived.Lib.LaidU8
import Derived.MakeChecks
import Derived.KernelRfl
namespace Go.Proofs.YtchoafdpckknmaaDoorE
open Go
set_option linter.unusedSimpArgs false
set_option linter.unusedVariables false
theorem tabOK_of {W : World} (h : laidMetH Tryd.prog [("unicode/utf8.acceptRanges", Go.Proofs.YtchoafdpckknmaaDoor.Rows.laid_unicode_utf8_acceptRanges), ("unicode/utf8.first", Go.Proofs.YtchoafdpckknmaaDoor.Rows.laid_unicode_utf8_first)] W) : VarOK (Old W) W := by
  rw [MakeChecks.laidMetH_plain _ _ _ (by kernel_rfl)] at h
  have r0 := Lib.laidMet.reads h (n := "unicode/utf8.first") (d := Go.Proofs.YtchoafdpckknmaaDoor.Rows.laid_unicode_utf8_first) (by simp)
  have r1 := Lib.laidMet.reads h (n := "unicode/utf8.acceptRanges") (d := Go.Proofs.YtchoafdpckknmaaDoor.Rows.laid_unicode_utf8_acceptRanges) (by simp)
  have old : ∀ {g j : Nat} {v : Value}, W.cell? ⟨g, j, none⟩ = some v → Old W g := fun {g j v} hc => by
    show g < W.heap.size
    rcases Nat.lt_or_ge g W.heap.size with hr | hr
    · exact hr
    · exfalso
      simp [World.cell?, Array.getElem?_eq_none hr] at hc
  have c0 : ∀ (j : Nat) (n : Int), vt0[j]? = some n → W.cell? ⟨0, j, none⟩ = some (.int .u8 n) := by
    obtain ⟨g, t, cs, fuel, p, hg, hty, hvar, hd⟩ := r0
    obtain rfl : g = 0 := Option.some.inj (hg.symm.trans (by kernel_rfl))
    obtain rfl : t = 63 := Option.some.inj (hty.symm.trans (by kernel_rfl))
    rw [show Go.Proofs.YtchoafdpckknmaaDoor.Rows.laid_unicode_utf8_first = Lib.tabData .u8 vt0 from by kernel_rfl] at hd
    have hcs := Lib.cells_of_tab (t := 63) (e := 5) (n := 256) (by kernel_rfl) (by kernel_rfl) (by kernel_rfl) (by kernel_rfl) hd
    intro j n hn
    rw [World.var?_cell hg hvar j, ← Array.getElem?_toList, hcs, List.getElem?_map, hn]
    rfl
  have c1 : ∀ (j : Nat) (n : Int), vt1[j]? = some n → W.cell? ⟨1, j, none⟩ = some (.int .u8 n) := by
    obtain ⟨g, t, cs, fuel, p, hg, hty, hvar, hd⟩ := r1
    obtain rfl : g = 1 := Option.some.inj (hg.symm.trans (by kernel_rfl))
    obtain rfl : t = 66 := Option.some.inj (hty.symm.trans (by kernel_rfl))
    have hda : (Go.Proofs.YtchoafdpckknmaaDoor.Rows.laid_unicode_utf8_acceptRanges : DataW Unit) = .agg ((List.range 16).map fun i => .agg ([vt1.getD (2 * i) 0, vt1.getD (2 * i + 1) 0].map fun z => .lit (.int .u8 z))) := by kernel_rfl
    rw [hda] at hd
    have key : ∀ i, i < 16 → W.cell? ⟨1, 2 * i, none⟩ = some (.int .u8 (vt1.getD (2 * i) 0)) ∧ W.cell? ⟨1, 2 * i + 1, none⟩ = some (.int .u8 (vt1.getD (2 * i + 1) 0)) := by
      intro i hi
      obtain ⟨fuel', d, q, hdi, he⟩ := Lib.array_elem (t := 66) (e := 65) (n := 16) (by kernel_rfl) hd i hi
      simp only [List.getElem?_map, List.getElem?_range hi, Option.map_some, Option.some.injEq] at hdi
      subst hdi
      have c121 : Tryd.prog.cellsOf 65 = 2 := by kernel_rfl
      rw [c121] at he
      have hfs : ∃ fs : Array Field, Tryd.prog.underlying 65 = some (.struct fs) ∧ fs.size = 2 ∧ (∀ (j : Nat) (f : Field), fs[j]? = some f → Tryd.prog.underlying f.type = some (.int .u8) ∧ f.offset = j ∧ Tryd.prog.cellsOf f.type = 1) := by
        have hs : (match Tryd.prog.underlying 65 with | some (.struct fs) => fs.toList.map (fun f => (f.type, f.offset)) | _ => []) = [(5, 0), (5, 1)] := by kernel_rfl
        split at hs
        · rename_i fs hfs
          refine ⟨fs, hfs, by have := congrArg List.length hs; simpa using this, fun j f hj => ?_⟩
          have h1 : (fs.toList.map (fun f => (f.type, f.offset)))[j]? = some (f.type, f.offset) := by
            rw [List.getElem?_map, Array.getElem?_toList, hj]; rfl
          rw [hs] at h1
          match j, h1 with
          | 0, h1 => simp at h1; rw [← h1.1, ← h1.2]; exact ⟨by kernel_rfl, rfl, by kernel_rfl⟩
          | 1, h1 => simp at h1; rw [← h1.1, ← h1.2]; exact ⟨by kernel_rfl, rfl, by kernel_rfl⟩
          | j + 2, h1 => simp at h1
        · cases hs
      obtain ⟨fs, f1, f2, f3⟩ := hfs
      have hcs := Lib.ints_of_struct f1 f3 (by rw [c121, f2]) he
      have e0 := congrArg (·[0]?) hcs
      have e1 := congrArg (·[1]?) hcs
      simp only [List.getElem?_take, List.getElem?_drop] at e0 e1
      constructor
      · rw [World.var?_cell hg hvar (2 * i), ← Array.getElem?_toList]
        simpa [Nat.mul_comm] using e0
      · rw [World.var?_cell hg hvar (2 * i + 1), ← Array.getElem?_toList]
        simpa [Nat.mul_comm] using e1
    intro j n hn
    have hj : j < 32 := (List.getElem?_eq_some_iff.1 hn).1
    have hg' : vt1.getD j 0 = n := by rw [List.getD_eq_getElem?_getD, hn]; rfl
    obtain ⟨k1, k2⟩ := key (j / 2) (by omega)
    rcases Nat.mod_two_eq_zero_or_one j with h2 | h2
    · rw [show 2 * (j / 2) = j by omega, hg'] at k1; exact k1
    · rw [show 2 * (j / 2) + 1 = j by omega, hg'] at k2; exact k2
  intro g t ht
  match g, ht with
  | 0, ht => cases ht; exact ⟨old (c0 0 240 (by rfl)), c0⟩
  | 1, ht => cases ht; exact ⟨old (c1 0 128 (by rfl)), c1⟩
  | g + 2, ht => cases ht
end Go.Proofs.YtchoafdpckknmaaDoorE
