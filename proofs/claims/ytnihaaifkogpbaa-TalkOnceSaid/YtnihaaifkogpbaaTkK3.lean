/- The walks of chapter 27: parts one by one, and the reference's. -/
import Derived.Test.YtnihaaifkogpbaaTkK2
namespace Go.Proofs.Ytnihaaifkogpbaa
open Go.ChangeShapes Go.WideShapes Go.ChangeAt Go.RowKit
set_option linter.unusedVariables false

theorem khas_any (k p : Int) (w : World) (p0 : -9223372036854775808 ≤ p) (p1 : p ≤ 9223372036854775807) :
    Calls Try.prog 63 #[.int .i64 k, .int .i64 p] w fun e w' => e = .returned (.bool (Kd.has k p)) ∧ Below w.heap.size w w' := by
  have hh : Kd.has k p = ((decide (0 < p) && decide (p ≤ 128) && bits .and .i64 p (p - 1) == 0) && bits .and .i64 (Kd.pt k) p != 0) := rfl
  have HH := Lib.hid hh
  have hpt := kparts_any k
  generalize Kd.has k p = r at *
  generalize Kd.pt k = z at *
  have HP := Lib.hid hpt
  clear hh hpt
  by_cases h1 : 0 < p
  · by_cases h2 : p ≤ 128
    · by_cases h3 : (bits .and .i64 p (p - 1) == 0) = true
      · by_cases h4 : (bits .and .i64 z p != 0) = true
        · have hr : r = true := by rw [HH.out, h3, h4, decide_eq_true h1, decide_eq_true h2]; rfl
          have HR := Lib.hid hr
          clear hr
          go_enter Try.func63, Try.ntmps63
          go_wp2_with (go_at_call 77; refine (HP.out _).mono ?_; rintro e w1 ⟨rfl, hb1⟩)
          go_ret
          exact ⟨by rw [HR.out]; rfl, hb1⟩
        · have h4' : (bits .and .i64 z p != 0) = false := by simpa using h4
          have hr : r = false := by rw [HH.out, h3, h4', decide_eq_true h1, decide_eq_true h2]; rfl
          have HR := Lib.hid hr
          clear hr h4
          go_enter Try.func63, Try.ntmps63
          go_wp2_with (go_at_call 77; refine (HP.out _).mono ?_; rintro e w1 ⟨rfl, hb1⟩)
          go_ret
          exact ⟨by rw [HR.out]; rfl, hb1⟩
      · have h3' : (bits .and .i64 p (p - 1) == 0) = false := by simpa using h3
        have hr : r = false := by rw [HH.out, h3', decide_eq_true h1, decide_eq_true h2]; rfl
        have HR := Lib.hid hr
        clear hr h3
        go_enter Try.func63, Try.ntmps63
        go_wp2_with fail
        go_ret
        exact ⟨by rw [HR.out]; rfl, Below.refl _ _⟩
    · have hr : r = false := by rw [HH.out, decide_eq_true h1, decide_eq_false h2]; rfl
      have HR := Lib.hid hr
      clear hr
      go_enter Try.func63, Try.ntmps63
      go_wp2_with fail
      go_ret
      exact ⟨by rw [HR.out]; rfl, Below.refl _ _⟩
  · have hr : r = false := by rw [HH.out, decide_eq_false h1]; rfl
    have HR := Lib.hid hr
    clear hr
    go_enter Try.func63, Try.ntmps63
    go_wp2_with fail
    go_ret
    exact ⟨by rw [HR.out]; rfl, Below.refl _ _⟩
end Go.Proofs.Ytnihaaifkogpbaa
