/- Opening a struct of eleven fields; opening a message. -/
import Derived.Test.YtlfieiiegokejaaOpenF
import Derived.Test.YtlfieiiegokejaaTkR
namespace Go.Proofs.Ytlfieiiegokejaa
open Go.ChangeShapes Go.WideShapes Go.ChangeAt Go.RowKit
set_option linter.unusedVariables false
section
variable {P : Program} {T : TypeId} {α0 α1 α2 α3 α4 α5 α6 α7 α8 α9 α10 : Type}
theorem opens_struct11 {r0 : Rp α0} {r1 : Rp α1} {r2 : Rp α2} {r3 : Rp α3} {r4 : Rp α4} {r5 : Rp α5} {r6 : Rp α6} {r7 : Rp α7} {r8 : Rp α8} {r9 : Rp α9} {r10 : Rp α10} {f0 f1 f2 f3 f4 f5 f6 f7 f8 f9 f10 : Field} (ht : P.underlying T = some (.struct #[f0, f1, f2, f3, f4, f5, f6, f7, f8, f9, f10])) (h0 : Opens P f0.type r0) (h1 : Opens P f1.type r1) (h2 : Opens P f2.type r2) (h3 : Opens P f3.type r3) (h4 : Opens P f4.type r4) (h5 : Opens P f5.type r5) (h6 : Opens P f6.type r6) (h7 : Opens P f7.type r7) (h8 : Opens P f8.type r8) (h9 : Opens P f9.type r9) (h10 : Opens P f10.type r10)
    (hc : (f0.offset, P.cellsOf f0.type, f1.offset, P.cellsOf f1.type, f2.offset, P.cellsOf f2.type, f3.offset, P.cellsOf f3.type, f4.offset, P.cellsOf f4.type, f5.offset, P.cellsOf f5.type, f6.offset, P.cellsOf f6.type, f7.offset, P.cellsOf f7.type, f8.offset, P.cellsOf f8.type, f9.offset, P.cellsOf f9.type, f10.offset, P.cellsOf f10.type, P.cellsOf T) = (0, r0.size, r0.size, r1.size, r0.size + r1.size, r2.size, r0.size + r1.size + r2.size, r3.size, r0.size + r1.size + r2.size + r3.size, r4.size, r0.size + r1.size + r2.size + r3.size + r4.size, r5.size, r0.size + r1.size + r2.size + r3.size + r4.size + r5.size, r6.size, r0.size + r1.size + r2.size + r3.size + r4.size + r5.size + r6.size, r7.size, r0.size + r1.size + r2.size + r3.size + r4.size + r5.size + r6.size + r7.size, r8.size, r0.size + r1.size + r2.size + r3.size + r4.size + r5.size + r6.size + r7.size + r8.size, r9.size, r0.size + r1.size + r2.size + r3.size + r4.size + r5.size + r6.size + r7.size + r8.size + r9.size, r10.size, r0.size + r1.size + r2.size + r3.size + r4.size + r5.size + r6.size + r7.size + r8.size + r9.size + r10.size)) : Opens P T (rpPair r0 (rpPair r1 (rpPair r2 (rpPair r3 (rpPair r4 (rpPair r5 (rpPair r6 (rpPair r7 (rpPair r8 (rpPair r9 r10)))))))))) := fun H enc w held fuel cs x h => by
  obtain ⟨xs, n, _, _, hlen, hxl, hf⟩ := DataW.trod_struct ht h
  simp only [Prod.mk.injEq] at hc
  obtain ⟨c0, c1, c2, c3, c4, c5, c6, c7, c8, c9, c10, c11, c12, c13, c14, c15, c16, c17, c18, c19, c20, c21, c22⟩ := hc
  have g0 := hf 0 f0 rfl
  have g1 := hf 1 f1 rfl
  have g2 := hf 2 f2 rfl
  have g3 := hf 3 f3 rfl
  have g4 := hf 4 f4 rfl
  have g5 := hf 5 f5 rfl
  have g6 := hf 6 f6 rfl
  have g7 := hf 7 f7 rfl
  have g8 := hf 8 f8 rfl
  have g9 := hf 9 f9 rfl
  have g10 := hf 10 f10 rfl
  have hxl' : xs.length = 11 := by simpa using hxl
  rw [List.getElem?_eq_getElem (by omega)] at g0 g1 g2 g3 g4 g5 g6 g7 g8 g9 g10
  rw [c0, c1, List.drop_zero] at g0
  rw [c2, c3] at g1
  rw [c4, c5] at g2
  rw [c6, c7] at g3
  rw [c8, c9] at g4
  rw [c10, c11] at g5
  rw [c12, c13] at g6
  rw [c14, c15] at g7
  rw [c16, c17] at g8
  rw [c18, c19] at g9
  rw [c20, c21] at g10
  obtain ⟨x0, q0⟩ := h0 H enc w held n _ _ g0
  obtain ⟨x1, q1⟩ := h1 H enc w held n _ _ g1
  obtain ⟨x2, q2⟩ := h2 H enc w held n _ _ g2
  obtain ⟨x3, q3⟩ := h3 H enc w held n _ _ g3
  obtain ⟨x4, q4⟩ := h4 H enc w held n _ _ g4
  obtain ⟨x5, q5⟩ := h5 H enc w held n _ _ g5
  obtain ⟨x6, q6⟩ := h6 H enc w held n _ _ g6
  obtain ⟨x7, q7⟩ := h7 H enc w held n _ _ g7
  obtain ⟨x8, q8⟩ := h8 H enc w held n _ _ g8
  obtain ⟨x9, q9⟩ := h9 H enc w held n _ _ g9
  obtain ⟨x10, q10⟩ := h10 H enc w held n _ _ g10
  refine ⟨(x0, x1, x2, x3, x4, x5, x6, x7, x8, x9, x10), _, _, ?_, q0, _, _, rfl, q1, _, _, rfl, q2, _, _, rfl, q3, _, _, rfl, q4, _, _, rfl, q5, _, _, rfl, q6, _, _, rfl, q7, _, _, rfl, q8, _, _, rfl, q9, q10⟩
  rw [List.take_of_length_le (l := List.drop (r0.size + r1.size + r2.size + r3.size + r4.size + r5.size + r6.size + r7.size + r8.size + r9.size) cs) (by rw [List.length_drop]; omega)]
  simp only [← List.drop_drop, List.take_append_drop]
end
theorem opens_msg : Opens Try.prog 32 rpMs :=
  opens_via _ (opens_struct11 Try.underlying32 (opens_int Try.underlying3) (opens_u64 Try.underlying22) (opens_u64 Try.underlying22) (opens_u64 Try.underlying22) (opens_int Try.underlying3) (opens_int Try.underlying3)
    (opens_slice Try.underlying23 (opens_u64 Try.underlying22) (by kernel_rfl) (by decide))
    (opens_slice Try.underlying24 (opens_struct2 Try.underlying64 (opens_u64 Try.underlying22) (opens_slice Try.underlying23 (opens_u64 Try.underlying22) (by kernel_rfl) (by decide)) (by kernel_rfl)) (by kernel_rfl) (by decide))
    (opens_slice Try.underlying25 (opens_u8 Try.underlying5) (by kernel_rfl) (by decide))
    (opens_struct3 Try.underlying27 (opens_u64 Try.underlying22) (opens_u64 Try.underlying22) (opens_u64 Try.underlying22) (by kernel_rfl))
    (opens_struct2 Try.underlying30 (opens_u64 Try.underlying22) (opens_slice Try.underlying28 (opens_struct3 Try.underlying79 (opens_u64 Try.underlying22) (opens_u64 Try.underlying22) (opens_slice Try.underlying77 (opens_slice Try.underlying23 (opens_u64 Try.underlying22) (by kernel_rfl) (by decide)) (by kernel_rfl) (by decide)) (by kernel_rfl)) (by kernel_rfl) (by decide)) (by kernel_rfl))
    (by kernel_rfl)) (fun x => ⟨x.1, x.2.1, x.2.2.1, x.2.2.2.1, x.2.2.2.2.1, x.2.2.2.2.2.1, x.2.2.2.2.2.2.1, x.2.2.2.2.2.2.2.1, x.2.2.2.2.2.2.2.2.1, x.2.2.2.2.2.2.2.2.2.1, x.2.2.2.2.2.2.2.2.2.2⟩) (fun a => rfl)
theorem opens_msgs : Opens Try.prog 38 (rpSlice rpMs) := opens_slice Try.underlying38 opens_msg (by rw [ms_size]; kernel_rfl) (by rw [ms_size]; decide)
/-- A message that was handed over. -/
theorem msg_open {w : World} {D : Dom} {m : Ms} {cs : Array Value} (hD : ∀ k, D k → k < w.heap.size) (h : rpMs.ok w D m cs.toList) : ∃ hd : Hd, cs = msV m hd ∧ MsIn w D m hd := by
  obtain ⟨hd, h1, h2⟩ := ms_open hD h
  exact ⟨hd, Array.ext' h1, h2⟩
end Go.Proofs.Ytlfieiiegokejaa
