/- The walks of chapter 27: parts one by one, and the reference's. -/
import Derived.Test.YthpjdplobjdfmaaKind2
namespace Go.Proofs.Ythpjdplobjdfmaa
open Go.ChangeShapes Go.WideShapes Go.ChangeAt Go.RowKit
set_option linter.unusedVariables false

theorem has_any (k p : Int) (w : World) (p0 : -9223372036854775808 ≤ p) (p1 : p ≤ 9223372036854775807) :
    Calls Try.prog 12 #[.int .i64 k, .int .i64 p] w fun e w' => e = .returned (.bool (Kd.has k p)) ∧ Below w.heap.size w w' := by
  have hh : Kd.has k p = ((decide (0 < p) && decide (p ≤ 128) && bits .and .i64 p (p - 1) == 0) && bits .and .i64 (Kd.pt k) p != 0) := rfl
  have HH := Lib.hid hh
  have hpt := parts_any k
  generalize Kd.has k p = r at *
  generalize Kd.pt k = z at *
  have HP := Lib.hid hpt
  clear hh hpt
  by_cases h1 : 0 < p
  · by_cases h2 : p ≤ 128
    · by_cases h3 : (bits .and .i64 p (p - 1) == 0) = true
      · by_cases h4 : (bits .and .i64 z p != 0) = true
        · have hr : r = true := by rw [HH.out, h3, h4, decide_eq_true h1, decide_eq_true h2]; rfl
          have HR := Lib.hid hr
          clear hr
          go_enter Try.func12, Try.ntmps12
          go_wp2_with (go_at_call 13; refine (HP.out _).mono ?_; rintro e w1 ⟨rfl, hb1⟩)
          go_ret
          exact ⟨by rw [HR.out]; rfl, hb1⟩
        · have h4' : (bits .and .i64 z p != 0) = false := by simpa using h4
          have hr : r = false := by rw [HH.out, h3, h4', decide_eq_true h1, decide_eq_true h2]; rfl
          have HR := Lib.hid hr
          clear hr h4
          go_enter Try.func12, Try.ntmps12
          go_wp2_with (go_at_call 13; refine (HP.out _).mono ?_; rintro e w1 ⟨rfl, hb1⟩)
          go_ret
          exact ⟨by rw [HR.out]; rfl, hb1⟩
      · have h3' : (bits .and .i64 p (p - 1) == 0) = false := by simpa using h3
        have hr : r = false := by rw [HH.out, h3', decide_eq_true h1, decide_eq_true h2]; rfl
        have HR := Lib.hid hr
        clear hr h3
        go_enter Try.func12, Try.ntmps12
        go_wp2_with fail
        go_ret
        exact ⟨by rw [HR.out]; rfl, Below.refl _ _⟩
    · have hr : r = false := by rw [HH.out, decide_eq_true h1, decide_eq_false h2]; rfl
      have HR := Lib.hid hr
      clear hr
      go_enter Try.func12, Try.ntmps12
      go_wp2_with fail
      go_ret
      exact ⟨by rw [HR.out]; rfl, Below.refl _ _⟩
  · have hr : r = false := by rw [HH.out, decide_eq_false h1]; rfl
    have HR := Lib.hid hr
    clear hr
    go_enter Try.func12, Try.ntmps12
    go_wp2_with fail
    go_ret
    exact ⟨by rw [HR.out]; rfl, Below.refl _ _⟩
theorem live_any (w : World) : Calls Try.prog 11 #[] w fun e w' => e = .returned (.bool true) ∧ Below w.heap.size w w' := by
  have a1 : Kd.ans 1 9 = true := by decide +kernel
  have a2 : Kd.ans 1 10 = false := by decide +kernel
  have a3 : Kd.has 12 16 = true := by decide +kernel
  have c1 := answers_any 1 9
  have c2 := answers_any 1 10
  have c3 := fun w => has_any 12 16 w (by omega) (by omega)
  rw [a1] at c1; rw [a2] at c2; rw [a3] at c3
  have C1 := Lib.hid c1
  have C2 := Lib.hid c2
  have C3 := Lib.hid c3
  clear a1 a2 a3 c1 c2 c3
  go_enter Try.func11, Try.ntmps11
  go_wp2_with fail
  refine (C1.out _).mono ?_; rintro e w1 ⟨rfl, hb1⟩
  go_wp2_with fail
  refine (C2.out _).mono ?_; rintro e w2 ⟨rfl, hb2⟩
  have hb2 := hb1.trans (hb2.mono hb1.size)
  go_wp2_with fail
  refine (C3.out _).mono ?_; rintro e w3 ⟨rfl, hb3⟩
  have hb3 := hb2.trans (hb3.mono hb2.size)
  go_wp2_with fail
  go_ret
  exact ⟨rfl, hb3⟩
end Go.Proofs.Ythpjdplobjdfmaa
