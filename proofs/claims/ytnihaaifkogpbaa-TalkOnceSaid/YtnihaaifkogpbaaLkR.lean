/- How links stand in cells. -/
import Derived.Test.YtnihaaifkogpbaaLkM
import Derived.Test.YtnihaaifkogpbaaKeep
import Derived.Test.YtnihaaifkogpbaaOpenF
namespace Go.Proofs.Ytnihaaifkogpbaa
open Go.ChangeShapes Go.WideShapes Go.ChangeAt Go.RowKit
set_option linter.unusedVariables false
abbrev rpLnk : Rp Lnk := rpPair rpU64 (rpSlice rpU64)
theorem lnk_at {w : World} {D : Dom} {A : Option Addr} {n c : Nat} {l : List Lnk} (h : rpLnk.sl w D A n c l) {k : Nat} (hk : k < n) :
    ∃ b off x A' c', A = some ⟨b, off, none⟩ ∧ D b ∧ l[k]? = some x ∧ w.cell? ⟨b, off + k * 2, none⟩ = some (.int .u64 (x.1 : Int)) ∧ w.cell? ⟨b, off + k * 2 + 1, none⟩ = some (.slice A' x.2.length c') ∧
      rpU64.sl w D A' x.2.length c' x.2 ∧ x.1 ≤ 18446744073709551615 := by
  obtain ⟨b, off, x, cs, hA, hb, hx, hc, hg⟩ := Rp.sl_at h hk
  obtain ⟨cs1, cs2, rfl, ⟨rfl, q1⟩, h4⟩ := hc
  obtain ⟨A', c', rfl, hs⟩ := Rp.sl_form h4
  have e : rpLnk.size = 2 := by kernel_rfl
  rw [e] at hg
  exact ⟨b, off, x, A', c', hA, hb, hx, by simpa using hg 0 _ rfl, hg 1 _ rfl, hs, by omega⟩
end Go.Proofs.Ytnihaaifkogpbaa
