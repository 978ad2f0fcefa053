/- The larger of a number and zero. -/
import Derived.Test.YtjgcgedjpppfmaaNone
namespace Go.Proofs.Ytjgcgedjpppfmaa
open Go.ChangeShapes Go.WideShapes Go.ChangeAt Go.RowKit

theorem run_max (m : Int) (w : World) : (Builtin.max2 (.int .i64 m) (.int .i64 0)).run Try.prog w = .ok (.int .i64 (max m 0)) w := by
  by_cases h : m < 0
  · have : max m 0 = 0 := by omega
    rw [this]
    have h2 : ¬ 0 < m := by omega
    simp [Builtin.max2]
    omega
  · have : max m 0 = m := by omega
    rw [this]
    simp [Builtin.max2]
    omega
end Go.Proofs.Ytjgcgedjpppfmaa
