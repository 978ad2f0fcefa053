/- PeekCuts: the walk, at arguments as they are opened. -/
import Derived.Test.YtcbmnfjbmkpfiaaPkCw
import Derived.Test.YtcbmnfjbmkpfiaaPkOp
namespace Go.Proofs.Ytcbmnfjbmkpfiaa
open Go.ChangeShapes Go.WideShapes Go.ChangeAt Go.RowKit
set_option linter.unusedVariables false
theorem peekCuts_law (cs0 : Array Value) (x0 : Nat × Nat × List Ent) (f t : Int) (w : World) (h0 : rpBat.ok w (lt w.heap.size) x0 cs0.toList) (hf0 : 0 ≤ f) (hf : f ≤ 18446744073709551615) (ht0 : 0 ≤ t) (ht : t ≤ 18446744073709551615) :
    Calls Try.prog 5 #[.agg cs0, .int .u64 f, .int .u64 t] w fun e w' => e = .returned (.bool true) ∧ Below w.heap.size w w' := by
  obtain ⟨A, n, c, rfl, hs, he, hb⟩ := bat_open h0
  obtain ⟨f, rfl⟩ := Int.eq_ofNat_of_zero_le hf0
  obtain ⟨t, rfl⟩ := Int.eq_ofNat_of_zero_le ht0
  exact peekCuts_any hs (fun _ h => h) he hb (by omega) (by omega)
end Go.Proofs.Ytcbmnfjbmkpfiaa
