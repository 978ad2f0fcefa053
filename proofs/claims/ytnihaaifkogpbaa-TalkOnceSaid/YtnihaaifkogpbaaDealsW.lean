/- StripeDeals, its arguments as they come. -/
import Derived.Test.YtnihaaifkogpbaaDeals
namespace Go.Proofs.Ytnihaaifkogpbaa
open Go.ChangeShapes Go.WideShapes Go.ChangeAt Go.RowKit
set_option linter.unusedVariables false
abbrev rpStp : Rp Stp := rpPair rpU64 (rpPair rpU64 rpSets)
/-- A stripe's cells, opened. -/
theorem stp_open {w : World} {D : Dom} {x : Stp} {cs : List Value} (h : rpStp.ok w D x cs) : ∃ A c, cs = [.int .u64 (x.1 : Int), .int .u64 (x.2.1 : Int), .slice A x.2.2.length c] ∧ (rpSlice rpU64).sl w D A x.2.2.length c x.2.2 ∧ x.1 ≤ 18446744073709551615 ∧ x.2.1 ≤ 18446744073709551615 := by
  obtain ⟨cs1, cs2, rfl, ⟨rfl, q1⟩, cs3, cs4, rfl, ⟨rfl, q2⟩, h4⟩ := h
  obtain ⟨A, c, rfl, hs⟩ := Rp.sl_form h4
  exact ⟨A, c, rfl, hs, by omega, by omega⟩
theorem agg_of {cs : Array Value} {l : List Value} (h : cs.toList = l) : cs = l.toArray := by
  have : cs.toList.toArray = cs := by simp
  rw [← this, h]
end Go.Proofs.Ytnihaaifkogpbaa
