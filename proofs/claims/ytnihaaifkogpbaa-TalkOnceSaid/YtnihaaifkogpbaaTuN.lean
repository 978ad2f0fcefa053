/- talk.NewUnit. -/
import Derived.Test.YtnihaaifkogpbaaTuT
import Derived.Test.YtnihaaifkogpbaaEp
import Derived.Maps.Own
import Derived.Carry
namespace Go.Proofs.Ytnihaaifkogpbaa
open Go.ChangeShapes Go.WideShapes Go.ChangeAt Go.RowKit
set_option linter.unusedVariables false
set_option maxRecDepth 100000 in
set_option maxHeartbeats 4000000 in
theorem newUnit_any {nd ep : Nat} (w : World) (hn : nd ≤ 4294967295) (he : EOk ep) :
    Calls Try.prog 6 #[.int .u64 (nd : Int), .int .u64 (ep : Int)] w fun e w' => e = .returned (.tuple #[.pointer (some ⟨w.heap.size + 1, 0, none⟩), .int .i64 0]) ∧ w' = (w.alloc (.map #[] 0)).alloc (.cells (unV nd ep false (.map (some w.heap.size)) 0 (.pointer none) 0 none 0 0) 60) := by
  have hep : ep ≤ 18446744073709551615 := by have := he.2; omega
  have HER := Lib.hid (show Calls Try.prog 15 #[.int .u64 (ep : Int)] w fun e w' => e = .returned (.bool true) ∧ w = w' by
    have h := eright_any ep w hep
    rw [dec_true he] at h
    exact h)
  have hd : decide ((nd : Int) > 4294967295) = false := by simp; omega
  have hd2 : decide ((4294967295 : Int) < (nd : Int)) = false := by simp; omega
  go_enter Try.func6, Try.ntmps6
  go_wp2_with fail
  refine HER.out.mono ?_; rintro e w1 ⟨rfl, hw⟩
  subst hw
  have hmm := @run_makeMap Try.prog
  go_wp2_with fail
  refine bodyPost_ret (v := .tuple #[.pointer (some ⟨w.heap.size + 1, 0, none⟩), .int .i64 0]) (by simp [results, Try.results6, go_sem]) rfl ⟨rfl, rfl⟩
end Go.Proofs.Ytnihaaifkogpbaa
