/- PeekJoins: the walk, at arguments as they are opened. -/
import Derived.Test.YtcbmnfjbmkpfiaaPkX
import Derived.Test.YtcbmnfjbmkpfiaaPkOp
namespace Go.Proofs.Ytcbmnfjbmkpfiaa
open Go.ChangeShapes Go.WideShapes Go.ChangeAt Go.RowKit
set_option linter.unusedVariables false
theorem peekJoins_law (cs0 : Array Value) (x0 : Nat × Nat × List Ent) (cs1 : Array Value) (x1 : Nat × Nat × List Ent) (t : Int) (w : World) (h0 : rpBat.ok w (lt w.heap.size) x0 cs0.toList) (h1 : rpBat.ok w (lt w.heap.size) x1 cs1.toList) (ht0 : 0 ≤ t) (ht : t ≤ 18446744073709551615) :
    Calls Try.prog 3 #[.agg cs0, .agg cs1, .int .u64 t] w fun e w' => e = .returned (.bool true) ∧ Below w.heap.size w w' := by
  obtain ⟨A, n, c, rfl, hs, he, hb⟩ := bat_open h0
  obtain ⟨A2, m, c2, rfl, hs2, he2, hb2⟩ := bat_open h1
  obtain ⟨t, rfl⟩ := Int.eq_ofNat_of_zero_le ht0
  exact peekJoins_any hs (fun _ h => h) he hb hs2 (fun _ h => h) he2 hb2 (by omega)
end Go.Proofs.Ytcbmnfjbmkpfiaa
