/- Opening an array of two elements. -/
import Derived.Test.YtkffgmpkpafkmaaOpenF
namespace Go.Proofs.Ytkffgmpkpafkmaa
open Go.ChangeShapes Go.WideShapes Go.ChangeAt Go.RowKit
set_option linter.unusedVariables false
section
variable {P : Program} {T : TypeId} {α : Type}
theorem opens_array2 {r : Rp α} {e : TypeId} (ht : P.underlying T = some (.array 2 e)) (h0 : Opens P e r) (hc : (P.cellsOf e, P.cellsOf T) = (r.size, r.size + r.size)) : Opens P T (rpPair r r) := fun H enc w held fuel cs x h => by
  obtain ⟨xs, n, _, _, hlen, hxl, hf⟩ := DataW.trod_array ht h
  simp only [Prod.mk.injEq] at hc
  obtain ⟨c0, c1⟩ := hc
  have g0 := hf 0 (by decide)
  have g1 := hf 1 (by decide)
  rw [List.getElem?_eq_getElem (by omega)] at g0 g1
  rw [c0, Nat.zero_mul, List.drop_zero] at g0
  rw [c0, Nat.one_mul] at g1
  obtain ⟨a, ha⟩ := h0 H enc w held n _ _ g0
  obtain ⟨b, hb⟩ := h0 H enc w held n _ _ g1
  refine ⟨(a, b), _, _, ?_, ha, hb⟩
  rw [List.take_of_length_le (l := List.drop r.size cs) (by rw [List.length_drop]; omega), List.take_append_drop]
theorem okWide_array {w : World} {n : Nat} {e : TypeId} {k base} {v : Value} (ht : P.underlying T = some (.array n e)) (h : Value.okWide P w k base T v) : ∃ cs, v = .agg cs ∧ cs.size = P.cellsOf T := by
  simp only [Value.okWide, ht] at h
  obtain ⟨cs, h1, h2, _⟩ := h
  exact ⟨cs, h1, h2⟩
end
end Go.Proofs.Ytkffgmpkpafkmaa
