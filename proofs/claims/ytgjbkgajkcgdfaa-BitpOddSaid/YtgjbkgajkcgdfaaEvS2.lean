/- Operations that only compute or read. -/
import Derived.Test.YtgjbkgajkcgdfaaEvS1
import Derived.Laws.Strings
namespace Go.Proofs.YtgjbkgajkcgdfaaE
open Go
set_option linter.unusedSimpArgs false
set_option linter.unusedVariables false
variable {P : Program} {w : World} {m : Nat → Option Nat} {I O : Nat → Prop} {ρ : Pl} {H : List Blk}

theorem sound_int {op : BinOp} {k : IntKind} {a b : Int} {v : V} (h : vint op k a b = some v) (xt : TypeId) (ho : isShift op = false) :
    ∃ x, (binOp op xt (.int k a) (.int k b)).run P w = .ok x w ∧ RelV m I w ρ v x := by
  cases op <;> simp only [isShift, Bool.true_eq_false] at ho <;> simp only [vint] at h
  case quo =>
    split at h
    · cases h
    · rename_i hb; injection h with h; subst h; simp [binOp, Op.intDiv, hb, pure, Sem.run]; exact .int _ _ _
  case rem =>
    split at h
    · cases h
    · rename_i hb; injection h with h; subst h; simp [binOp, Op.intDiv, hb, pure, Sem.run]; exact .int _ _ _
  all_goals
    injection h with h; subst h
    simp [binOp, Op.intArith, Op.intBits, Op.intCmp, pure, Sem.run]
    first | exact .int _ _ _ | exact .bool _ _
theorem sound_shift {op : BinOp} {k k' : IntKind} {a b : Int} {v : V} (h : vshift op k a b = some v) (xt : TypeId) (ho : isShift op = true) :
    ∃ x, (binOp op xt (.int k a) (.int k' b)).run P w = .ok x w ∧ RelV m I w ρ v x := by
  unfold vshift at h
  split at h
  · cases h
  · rename_i hb
    cases op <;> simp only [isShift, Bool.false_eq_true] at ho <;> simp only [] at h
    all_goals
      injection h with h; subst h
      simp [binOp, Op.shift, hb, pure, Sem.run]
      exact .int _ _ _
theorem sound_str {op : BinOp} {a b : List UInt8} {v : V} (h : vstr op a b = some v) (xt : TypeId) :
    ∃ x, (binOp op xt (.string ⟨a.toArray⟩) (.string ⟨b.toArray⟩)).run P w = .ok x w ∧ RelV m I w ρ v x := by
  cases op <;> simp only [vstr] at h <;> try (cases h; done)
  case add =>
    split at h
    · rename_i hl
      injection h with h; subst h
      have hl' : ¬ ((((⟨a.toArray⟩ : ByteArray).size + (⟨b.toArray⟩ : ByteArray).size : Nat) : Int) > IntKind.i64.max) := by
        show ¬ (((a.toArray.size + b.toArray.size : Nat) : Int) > _)
        simp only [List.size_toArray]
        have : (IntKind.i64.max : Int) = 2 ^ 63 - 1 := rfl
        rw [this]; omega
      have hap : (⟨a.toArray⟩ : ByteArray) ++ ⟨b.toArray⟩ = ⟨(a ++ b).toArray⟩ := by
        apply ByteArray.ext
        simp [ByteArray.data_append]
      have hr : (binOp .add xt (.string ⟨a.toArray⟩) (.string ⟨b.toArray⟩)).run P w = .ok (.string ⟨(a ++ b).toArray⟩) w := by
        simp only [binOp, Op.stringOp, if_neg hl', hap]; rfl
      exact ⟨_, hr, .str _ _⟩
    · cases h
  all_goals
    injection h with h; subst h
    simp [binOp, Op.stringOp, pure, Sem.run, ByteArray.toList_mk]
    first | exact .bool _ _ | (rename_i h; done)
theorem sound_bin {op : BinOp} {p q v : V} {x y : Value} (h : vbin op p q = some v) (hx : RelV m I w ρ p x) (hy : RelV m I w ρ q y) (xt : TypeId) :
    ∃ z, (binOp op xt x y).run P w = .ok z w ∧ RelV m I w ρ v z := by
  cases hx <;> cases hy <;> simp only [vbin] at h <;> try (cases h; done)
  · split at h
    · rename_i ho; exact sound_shift h xt ho
    · rename_i ho
      split at h
      · rename_i e; subst e; exact sound_int h xt (by simpa using ho)
      · cases h
  · exact sound_str h xt
theorem sound_un {op : UnOp} {p v : V} {x : Value} (h : vun op p = some v) (hx : RelV m I w ρ p x) :
    ∃ z, (Op.unary op x).run P w = .ok z w ∧ RelV m I w ρ v z := by
  cases hx <;> simp only [vun] at h <;> try (cases h; done)
  · cases op <;> simp only [] at h <;> try (cases h; done)
    all_goals
      simp only [vint] at h
      injection h with h; subst h
      simp only [Op.unary, Op.intArith, Op.intBits]
      exact ⟨_, rfl, .int _ _ _⟩
  · cases op <;> simp only [] at h <;> try (cases h; done)
    injection h with h; subst h
    exact ⟨_, rfl, .bool _ _⟩
end Go.Proofs.YtgjbkgajkcgdfaaE
