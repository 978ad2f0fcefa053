/- PeekThreads: the walk, at arguments as they are opened. -/
import Derived.Test.YtcbmnfjbmkpfiaaPkTw
import Derived.Test.YtcbmnfjbmkpfiaaPkOp
namespace Go.Proofs.Ytcbmnfjbmkpfiaa
open Go.ChangeShapes Go.WideShapes Go.ChangeAt Go.RowKit
set_option linter.unusedVariables false
theorem peekThreads_law (cs0 : Array Value) (x0 : Nat × Nat × List Ent) (A2 : Option Addr) (n2 c2 : Nat) (l2 : List Lnk) (w : World) (h0 : rpBat.ok w (lt w.heap.size) x0 cs0.toList) (h2 : rpLnk.sl w (lt w.heap.size) A2 n2 c2 l2) :
    Calls Try.prog 4 #[.agg cs0, .slice A2 n2 c2] w fun e w' => e = .returned (.bool true) ∧ Below w.heap.size w w' := by
  obtain ⟨A, n, c, rfl, hs, he, hb⟩ := bat_open h0
  exact peekThreads_any hs (fun _ h => h) he hb h2 (fun _ h => h)
end Go.Proofs.Ytcbmnfjbmkpfiaa
