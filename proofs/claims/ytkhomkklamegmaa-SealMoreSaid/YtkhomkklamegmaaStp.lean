/- Walks: whether a number is in a list, whether a list rises, whether sets are apart. -/
import Derived.Test.YtkhomkklamegmaaStep
import Derived.Test.YtkhomkklamegmaaStpM
import Derived.Test.YtkhomkklamegmaaRows
import Derived.IntWalk
namespace Go.Proofs.Ytkhomkklamegmaa
open Go.ChangeShapes Go.WideShapes Go.ChangeAt Go.RowKit
set_option linter.unusedVariables false

theorem elem64 : Elem Try.prog 55 22 1 8 := Elem.of (z := .int .u64 0) Try.underlying55 (by kernel_rfl) rfl (by decide)
theorem u64_at {w : World} {D : Dom} {A : Option Addr} {n c : Nat} {l : List Nat} (h : rpU64.sl w D A n c l) {k : Nat} (hk : k < n) :
    ∃ b off x, A = some ⟨b, off, none⟩ ∧ D b ∧ l[k]? = some x ∧ w.cell? ⟨b, off + k, none⟩ = some (.int .u64 (x : Int)) ∧ x ≤ 18446744073709551615 := by
  obtain ⟨b, off, x, cs, hA, hb, hx, hc, hg⟩ := Rp.sl_at h hk
  obtain ⟨rfl, hlt⟩ := hc
  have := hg 0 _ rfl
  exact ⟨b, off, x, hA, hb, hx, by simpa [rpU64] using this, by omega⟩
abbrev rpSets : Rp (List (List Nat)) := rpSlice (rpSlice rpU64)

/-- Where a number first stands in a list, -1 if nowhere. -/
def IndexIs (l : List Nat) (x : Nat) (r : Int) : Prop := (∃ k : Nat, r = k ∧ l[k]? = some x ∧ ∀ (j : Nat), j < k → l[j]? ≠ some x) ∨ (r = -1 ∧ x ∉ l)
def IndexPost (l : List Nat) (x : Nat) (w : World) (e : Ending) (w' : World) : Prop := ∃ r : Int, IndexIs l x r ∧ e = .returned (.int .i64 r) ∧ w = w'
end Go.Proofs.Ytkhomkklamegmaa
