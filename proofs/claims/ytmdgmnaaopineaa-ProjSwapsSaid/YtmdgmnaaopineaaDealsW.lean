/- StripeDeals, its arguments as they come. -/
import Derived.Test.YtmdgmnaaopineaaDeals
namespace Go.Proofs.Ytmdgmnaaopineaa
open Go.ChangeShapes Go.WideShapes Go.ChangeAt Go.RowKit
set_option linter.unusedVariables false
abbrev rpStp : Rp Stp := rpPair rpU64 (rpPair rpU64 rpSets)
/-- A stripe's cells, opened. -/
theorem stp_open {w : World} {D : Dom} {x : Stp} {cs : List Value} (h : rpStp.ok w D x cs) : ∃ A c, cs = [.int .u64 (x.1 : Int), .int .u64 (x.2.1 : Int), .slice A x.2.2.length c] ∧ (rpSlice rpU64).sl w D A x.2.2.length c x.2.2 ∧ x.1 ≤ 18446744073709551615 ∧ x.2.1 ≤ 18446744073709551615 := by
  obtain ⟨cs1, cs2, rfl, ⟨rfl, q1⟩, cs3, cs4, rfl, ⟨rfl, q2⟩, h4⟩ := h
  obtain ⟨A, c, rfl, hs⟩ := Rp.sl_form h4
  exact ⟨A, c, rfl, hs, by omega, by omega⟩
theorem agg_of {cs : Array Value} {l : List Value} (h : cs.toList = l) : cs = l.toArray := by
  have : cs.toList.toArray = cs := by simp
  rw [← this, h]
theorem stripeDeals_st (cs : Array Value) (x : Stp) (p set : Int) (w : World) (hx : rpStp.ok w (lt w.heap.size) x cs.toList) (p0 : 0 ≤ p) (p1 : p ≤ 18446744073709551615) (s0 : -9223372036854775808 ≤ set) (s1 : set ≤ 9223372036854775807) :
    Calls Try.prog 12 #[.agg cs, .int .u64 p, .int .i64 set] w fun e w' => e = .returned (.bool true) ∧ Below w.heap.size w w' := by
  obtain ⟨A, c, hcs, hs, hf, ht⟩ := stp_open hx
  obtain ⟨q, rfl⟩ : ∃ q : Nat, p = q := ⟨p.toNat, by omega⟩
  rw [agg_of hcs]
  exact stripeDeals_any q set hs (fun k hk => hk) hf ht (by omega) s0 s1
end Go.Proofs.Ytmdgmnaaopineaa
