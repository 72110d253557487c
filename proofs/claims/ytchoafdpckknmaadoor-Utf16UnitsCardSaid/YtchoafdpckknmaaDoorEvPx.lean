/- Parse among the functions that are answered for without the evaluator's text. -/
import Derived.Test.YtchoafdpckknmaaDoorEvPw
namespace Go.Proofs.YtchoafdpckknmaaDoorE
open Go Go.Proofs Go.RowKit
set_option linter.unusedSimpArgs false
set_option linter.unusedVariables false
def parseV (l : List Int) : Option (List UInt8 × Int) := if l.length ≤ 1000 ∧ (l.all fun x => decide (0 ≤ x) && decide (x < 256)) = true then U0.prsX (l.map Int.toNat) else none
def parseX : (s : Sh) → List s.T → Option (V × List Blk)
 | .int .u8, l => (parseV l).map fun p => (.tup [.str p.1, .int .i64 p.2], [])
 | _, _ => none
def XU : Nat → List V → Option (V × List Blk)
 | 410, [.tb s l] => parseX s l
 | g, xs => XT g xs
theorem flat_u8 (l : List Int) (j : Nat) : (flat (.int .u8) l)[j]? = (l[j]?).map (V.int .u8) := by
  have : flat (.int .u8) l = l.map (V.int .u8) := by
    induction l with
    | nil => rfl
    | cons a l ih => show V.int .u8 a :: flat (.int .u8) l = _; rw [ih]; rfl
  rw [this, List.getElem?_map]
theorem parse_snd {m : Nat → Option Nat} {f : Nat} (hf : f = 16) {s : Sh} {l : List s.T} {H' : List Blk} {r : V} (hx : parseX s l = some (r, H'))
  {I O : Nat → Prop} {w : World} {ρ : Pl} {ys : Array Value} (hxs : RelVs m I w ρ [.tb s l] ys.toList) (hH : HRel m I O w ρ []) :
  CallRuns Tryd.prog f ys w (fun e w' => ∃ x I' O' ρ', e = .returned x ∧ RelV m I' w' ρ' r x ∧ HRel m I' O' w' ρ' H' ∧ CG 0 I O w ρ [] I' O' w' ρ' H') := by
  subst hf
  unfold parseX at hx
  split at hx <;> try (cases hx; done)
  rename_i l
  simp only [Option.map_eq_some_iff] at hx
  obtain ⟨⟨s, e⟩, hp, hr⟩ := hx
  simp only [Prod.mk.injEq] at hr
  obtain ⟨rfl, rfl⟩ := hr
  unfold parseV at hp
  split at hp <;> try (cases hp; done)
  rename_i hc
  obtain ⟨hl, hall⟩ := hc
  have hwf : ∀ x ∈ l, 0 ≤ x ∧ x < 256 := fun x hx => by
    have := List.all_eq_true.1 hall x hx
    simpa using this
  obtain ⟨y, rfl, hy⟩ := one_arg hxs
  obtain ⟨A, rc, fv, rfl, h1, h2, h3, h4⟩ := hy.tb_inv
  have hlen : (l.map Int.toNat).length = l.length := List.length_map _
  have hA : U0.At w A rc (l.map Int.toNat) := by
    refine ⟨by rw [hlen]; exact h1, h4, fun j n hn => ?_⟩
    rw [List.getElem?_map, Option.map_eq_some_iff] at hn
    obtain ⟨x, hx, rfl⟩ := hn
    have hg : (flat (.int .u8) l)[j]? = some (V.int .u8 x) := by rw [flat_u8, hx]; rfl
    obtain ⟨r, o, k1, k2, k3⟩ := h2 j _ hg
    have k4 := h3 j _ hg
    refine ⟨r, o, k1, ?_⟩
    rw [k3]
    generalize fv j = z at k4
    cases k4
    rw [Int.toNat_of_nonneg (hwf x (List.mem_of_getElem? hx)).1]
  have htb : VarOK (Old w) w := hH.tab.step (fun k hk => hH.imm k hk) (fun _ _ => rfl)
  have hb : bel 256 (l.map Int.toNat) := fun n hn => by
    obtain ⟨x, hx, rfl⟩ := List.mem_map.1 hn
    have h1 : (0 : Int) ≤ (x : Int) := (hwf x hx).1
    have h2 : (x : Int) < 256 := (hwf x hx).2
    show Int.toNat x < 256
    revert h1 h2
    generalize (x : Int) = z
    intro h1 h2
    omega
  have hcalls := U0.parse_calls htb hb (by rw [hlen]; exact hl) hA hp
  rw [hlen] at hcalls
  refine .inl ⟨⟨_, Tryd.func16, rfl, by decide⟩, hcalls.mono fun ex w' hh => ?_⟩
  obtain ⟨rfl, hbl⟩ := hh
  refine ⟨_, I, O, ρ, rfl, ?_, ?_, ?_⟩
  · refine .tup _ _ _ rfl (fun j v x hv hx => ?_)
    match j, hv, hx with
    | 0, hv, hx => cases hv; cases hx; exact .str _ _
    | 1, hv, hx => cases hv; cases hx; exact .int _ _ _
    | j + 2, hv, hx => simp at hv
  · exact ⟨hH.inj, fun i r hi => by
      obtain ⟨b, hb, _⟩ := hH.blk i r hi
      simp at hb, fun i r hi => Nat.lt_of_lt_of_le (hH.lt i r hi) hbl.size, fun k hk => Nat.lt_of_lt_of_le (hH.own k hk) hbl.size, fun k hk => Nat.lt_of_lt_of_le (hH.imm k hk) hbl.size, hH.dis, hH.tab.step (fun _ hk => hk) (fun k hk => hbl.block k (hH.imm k hk))⟩
  · refine ⟨fun _ h => h, ⟨hbl.os, hbl.tape, hbl.output, hbl.size, fun k hk _ => hbl.block k hk, fun k n hn => ?_⟩, fun _ h => .inl h, fun _ h => .inl h, fun i hi => by omega, fun i r hr _ => .inr (.inr ⟨i, Nat.zero_le _, hr⟩), Nat.le_refl _, fun j hj => by omega⟩
    have hk : k < w.heap.size := by
      rcases Nat.lt_or_ge k w.heap.size with hk | hk
      · exact hk
      · simp [sizeOf?, Array.getElem?_eq_none hk] at hn
    unfold sizeOf? at hn ⊢
    rw [hbl.block k hk]
    exact hn
theorem xu_snd {m : Nat → Option Nat} {F : Nat → Option Fun} (hm : Tryd.prog.follows .mixedOrders = true) (h : XOK Tryd.prog m) (h410 : ∀ f, m f = some 410 → f = 16) : XSnd Tryd.prog m F XU := by
  intro f g xs H' r hf hF hx I O w ρ ys hxs hH
  unfold XU at hx
  split at hx
  · exact parse_snd (h410 f hf) hx hxs hH
  · exact xt_snd hm h f _ _ H' r hf hF hx I O w ρ ys hxs hH
end Go.Proofs.YtchoafdpckknmaaDoorE
