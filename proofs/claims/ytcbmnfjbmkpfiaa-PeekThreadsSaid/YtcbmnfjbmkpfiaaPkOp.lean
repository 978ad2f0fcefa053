/- Opening a batch and a chain that are handed over. -/
import Derived.Test.YtcbmnfjbmkpfiaaPkR
import Derived.Test.YtcbmnfjbmkpfiaaOpenF
namespace Go.Proofs.Ytcbmnfjbmkpfiaa
open Go.ChangeShapes Go.WideShapes Go.ChangeAt Go.RowKit
set_option linter.unusedVariables false
abbrev rpBat : Rp (Nat × Nat × List Ent) := rpPair rpU64 (rpPair rpU64 (rpSlice rpEnt))
theorem opens_lnk26 : Opens Try.prog 57 rpLnk :=
  opens_struct2 Try.underlying57 (opens_u64 Try.underlying22) (opens_slice Try.underlying48 (opens_u64 Try.underlying22) (by kernel_rfl) (by decide)) (by kernel_rfl)
theorem opens_lnks26 : Opens Try.prog 35 (rpSlice rpLnk) := opens_slice Try.underlying35 opens_lnk26 (by kernel_rfl) (by decide)
theorem opens_ent26 : Opens Try.prog 45 rpEnt :=
  opens_struct2 Try.underlying45 opens_lnks26 (opens_slice Try.underlying43 (opens_u8 Try.underlying5) (by kernel_rfl) (by decide)) (by kernel_rfl)
theorem opens_bat26 : Opens Try.prog 25 rpBat :=
  opens_struct3 Try.underlying25 (opens_u64 Try.underlying22) (opens_u64 Try.underlying22) (opens_slice Try.underlying23 opens_ent26 (by kernel_rfl) (by decide)) (by kernel_rfl)
/-- A batch that was handed over. -/
theorem bat_open {w : World} {D : Dom} {x : Nat × Nat × List Ent} {cs : Array Value} (h : rpBat.ok w D x cs.toList) : ∃ A n c, cs = batV x.1 x.2.1 A n c ∧ rpEnt.sl w D A n c x.2.2 ∧ x.1 ≤ 18446744073709551615 ∧ x.2.1 ≤ 18446744073709551615 := by
  obtain ⟨xs, ys, h1, h2, us, vs, h3, h4, h5⟩ := h
  obtain ⟨A, c, rfl, hs⟩ := Rp.sl_form h5
  obtain ⟨e2, l2⟩ := h2
  obtain ⟨e4, l4⟩ := h4
  exact ⟨A, _, c, Array.ext' (by rw [h1, h3, e2, e4]; rfl), hs, by omega, by omega⟩
end Go.Proofs.Ytcbmnfjbmkpfiaa
