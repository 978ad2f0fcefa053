/- The law's example; the walks of the laws on one seal. -/
import Derived.Test.YtkhomkklamegmaaSealD
import Derived.Test.YtkhomkklamegmaaKeep
import Derived.Test.YtkhomkklamegmaaLive
namespace Go.Proofs.Ytkhomkklamegmaa
open Go.ChangeShapes Go.WideShapes Go.ChangeAt Go.RowKit
set_option linter.unusedVariables false
set_option maxRecDepth 100000 in
theorem slive_any (w : World) : Calls Try.prog 7 #[] w fun e w' => e = .returned (.bool true) ∧ Below w.heap.size w w' := by
  have hb : sbytes (3, 1, 300) = [3, 1, 172, 2] := by
    unfold sbytes
    rw [vbytes_lt (show 3 < 128 by decide), vbytes_lt (show 1 < 128 by decide), vbytes_ge (show ¬ 300 < 128 by decide), vbytes_lt (show 300 / 128 < 128 by decide)]
    rfl
  have HS := Lib.hid (sbytes_ok (3, 1, 300) (by decide) w)
  rw [hb] at HS
  clear hb
  go_enter Try.func7, Try.ntmps7
  go_wp2_with fail
  refine HS.out.mono ?_; rintro e w1 ⟨A, n, c, rfl, ho, hb1⟩
  have HO := Lib.hid (keepO ho (below1 w1 (.cells #[.int .u8 3, .int .u8 1, .int .u8 172, .int .u8 2] 5)))
  have HF := Lib.hid (four_at w1 3 1 172 2 5)
  have HB1 := Lib.hid hb1
  clear ho hb1
  go_wp2_with fail
  refine (same_any _ _ _ _ _ _ _ _ _ _ _ (own_bytes HO.out) HF.out).mono ?_; rintro e w2 ⟨rfl, rfl⟩
  go_wp2_with fail
  go_ret
  exact ⟨rfl, stepB HB1.out (below1 _ _)⟩
end Go.Proofs.Ytkhomkklamegmaa
