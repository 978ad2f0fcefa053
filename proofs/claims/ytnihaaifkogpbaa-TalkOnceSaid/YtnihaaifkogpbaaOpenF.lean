/- Opening a struct of four fields. -/
import Derived.Test.YtnihaaifkogpbaaOpen
namespace Go.Proofs.Ytnihaaifkogpbaa
open Go.ChangeShapes Go.WideShapes Go.ChangeAt Go.RowKit
set_option linter.unusedVariables false
section
variable {P : Program} {T : TypeId} {α β γ δ : Type}
theorem opens_struct4 {r : Rp α} {s : Rp β} {t : Rp γ} {u : Rp δ} {f0 f1 f2 f3 : Field} (ht : P.underlying T = some (.struct #[f0, f1, f2, f3])) (h0 : Opens P f0.type r) (h1 : Opens P f1.type s) (h2 : Opens P f2.type t) (h3 : Opens P f3.type u)
    (hc : (f0.offset, P.cellsOf f0.type, f1.offset, P.cellsOf f1.type, f2.offset, P.cellsOf f2.type, f3.offset, P.cellsOf f3.type, P.cellsOf T) = (0, r.size, r.size, s.size, r.size + s.size, t.size, r.size + s.size + t.size, u.size, r.size + s.size + t.size + u.size)) : Opens P T (rpPair r (rpPair s (rpPair t u))) := fun H enc w held fuel cs x h => by
  obtain ⟨xs, n, _, _, hlen, hxl, hf⟩ := DataW.trod_struct ht h
  simp only [Prod.mk.injEq] at hc
  obtain ⟨c0, c1, c2, c3, c4, c5, c6, c7, c8⟩ := hc
  have g0 := hf 0 f0 rfl
  have g1 := hf 1 f1 rfl
  have g2 := hf 2 f2 rfl
  have g3 := hf 3 f3 rfl
  have hxl' : xs.length = 4 := by simpa using hxl
  rw [List.getElem?_eq_getElem (by omega)] at g0 g1 g2 g3
  rw [c0, c1, List.drop_zero] at g0
  rw [c2, c3] at g1
  rw [c4, c5] at g2
  rw [c6, c7] at g3
  obtain ⟨a, ha⟩ := h0 H enc w held n _ _ g0
  obtain ⟨b, hb⟩ := h1 H enc w held n _ _ g1
  obtain ⟨c, hcc⟩ := h2 H enc w held n _ _ g2
  obtain ⟨d, hd⟩ := h3 H enc w held n _ _ g3
  refine ⟨(a, b, c, d), _, _, ?_, ha, _, _, rfl, hb, _, _, rfl, hcc, hd⟩
  rw [List.take_of_length_le (l := List.drop (r.size + s.size + t.size) cs) (by rw [List.length_drop]; omega)]
  simp only [← List.drop_drop, List.take_append_drop]
theorem opens_struct3 {r : Rp α} {s : Rp β} {t : Rp γ} {f0 f1 f2 : Field} (ht : P.underlying T = some (.struct #[f0, f1, f2])) (h0 : Opens P f0.type r) (h1 : Opens P f1.type s) (h2 : Opens P f2.type t)
    (hc : (f0.offset, P.cellsOf f0.type, f1.offset, P.cellsOf f1.type, f2.offset, P.cellsOf f2.type, P.cellsOf T) = (0, r.size, r.size, s.size, r.size + s.size, t.size, r.size + s.size + t.size)) : Opens P T (rpPair r (rpPair s t)) := fun H enc w held fuel cs x h => by
  obtain ⟨xs, n, _, _, hlen, hxl, hf⟩ := DataW.trod_struct ht h
  simp only [Prod.mk.injEq] at hc
  obtain ⟨c0, c1, c2, c3, c4, c5, c6⟩ := hc
  have g0 := hf 0 f0 rfl
  have g1 := hf 1 f1 rfl
  have g2 := hf 2 f2 rfl
  have hxl' : xs.length = 3 := by simpa using hxl
  rw [List.getElem?_eq_getElem (by omega)] at g0 g1 g2
  rw [c0, c1, List.drop_zero] at g0
  rw [c2, c3] at g1
  rw [c4, c5] at g2
  obtain ⟨a, ha⟩ := h0 H enc w held n _ _ g0
  obtain ⟨b, hb⟩ := h1 H enc w held n _ _ g1
  obtain ⟨c, hcc⟩ := h2 H enc w held n _ _ g2
  refine ⟨(a, b, c), _, _, ?_, ha, _, _, rfl, hb, hcc⟩
  rw [List.take_of_length_le (l := List.drop (r.size + s.size) cs) (by rw [List.length_drop]; omega)]
  simp only [← List.drop_drop, List.take_append_drop]
end
end Go.Proofs.Ytnihaaifkogpbaa
