/- A number's lowest bytes, the program's and the reference's; whether two rows of bytes are the same; the law's example. -/
import Derived.Test.YtkhomkklamegmaaPen2
namespace Go.Proofs.Ytkhomkklamegmaa
open Go.ChangeShapes Go.WideShapes Go.ChangeAt Go.RowKit
set_option linter.unusedVariables false

theorem take_succ {α : Type} {l : List α} {k : Nat} {x : α} (h : l[k]? = some x) : l.take (k + 1) = l.take k ++ [x] := by
  rw [List.take_add_one, h]; rfl
/-- The lowest m bytes, the lowest first. -/
def low : Nat → Nat → List UInt8
  | 0, _ => []
  | m + 1, x => low m x ++ [UInt8.ofNat (x / 256 ^ m)]
theorem low_length (x : Nat) : ∀ m, (low m x).length = m
  | 0 => rfl
  | m + 1 => by rw [low, List.length_append, low_length x m]; rfl
def many (n : Int) : Nat := (min (max n 0) 8).toNat
theorem many_le (n : Int) : many n ≤ 8 := by unfold many; omega

end Go.Proofs.Ytkhomkklamegmaa
