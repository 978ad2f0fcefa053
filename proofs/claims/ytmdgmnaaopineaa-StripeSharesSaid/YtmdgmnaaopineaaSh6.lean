/- StripeShares, its arguments as they come. -/
import Derived.Test.YtmdgmnaaopineaaSh5
namespace Go.Proofs.Ytmdgmnaaopineaa
open Go.ChangeShapes Go.WideShapes Go.ChangeAt Go.RowKit
set_option linter.unusedVariables false
abbrev rpStpH : Rp Stp := rpPair rpU64 (rpPair rpU64 rpSets)
theorem stripeShares_st (cs : Array Value) (s : Stp) (x : Int) (w : World) (hx : rpStpH.ok w (lt w.heap.size) s cs.toList) (x0 : 0 ≤ x) (x1 : x ≤ 18446744073709551615) :
    Calls Try.prog 13 #[.agg cs, .int .u64 x] w fun e w' => e = .returned (.bool true) ∧ Below w.heap.size w w' := by
  obtain ⟨cs1, cs2, e1, ⟨rfl, q1⟩, cs3, cs4, rfl, ⟨rfl, q2⟩, h4⟩ := hx
  obtain ⟨A, c, rfl, hs⟩ := Rp.sl_form h4
  obtain ⟨q, rfl⟩ : ∃ q : Nat, x = q := ⟨x.toNat, by omega⟩
  have hcs : cs = stpV s.1 s.2.1 A s.2.2.length c := by
    have : cs.toList.toArray = cs := by simp
    rw [← this, e1]; rfl
  rw [hcs]
  exact stripeShares_any hs (fun k hk => hk) (by omega) (by omega)
end Go.Proofs.Ytmdgmnaaopineaa
