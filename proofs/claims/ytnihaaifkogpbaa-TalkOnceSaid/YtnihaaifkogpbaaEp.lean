/- Chapter 17: whether a number is an epoch or a position. -/
import Derived.Test.YtnihaaifkogpbaaCore
import Derived.Test.YtnihaaifkogpbaaStpM
import Derived.Test.YtnihaaifkogpbaaChecked
namespace Go.Proofs.Ytnihaaifkogpbaa
open Go.ChangeShapes Go.WideShapes Go.ChangeAt Go.RowKit
set_option linter.unusedVariables false
def EOk (e : Nat) : Prop := 1 ≤ e ∧ e < 4611686018427387904
def PosOk (x : Nat) : Prop := x < 4611686018427387904
theorem eright_any (e : Nat) (w : World) (he : e ≤ 18446744073709551615) : Calls Try.prog 15 #[.int .u64 (e : Int)] w fun en w' => en = .returned (.bool (dec (EOk e))) ∧ w = w' := by
  by_cases h1 : 1 ≤ e
  · by_cases h2 : e < 4611686018427387904
    · have hd : decide ((1 : Int) ≤ (e : Int)) = true := by simp; omega
      have hd2 : decide ((e : Int) < 4611686018427387904) = true := by simp; omega
      rw [dec_true (show EOk e from ⟨h1, h2⟩)]
      go_enter Try.func15, Try.ntmps15
      go_wp2_with fail
      go_ret
      exact ⟨rfl, rfl⟩
    · have hd : decide ((1 : Int) ≤ (e : Int)) = true := by simp; omega
      have hd2 : decide ((e : Int) < 4611686018427387904) = false := by simp; omega
      rw [dec_false (show ¬ EOk e from fun h => h2 h.2)]
      go_enter Try.func15, Try.ntmps15
      go_wp2_with fail
      go_ret
      exact ⟨rfl, rfl⟩
  · have hd : decide ((1 : Int) ≤ (e : Int)) = false := by simp; omega
    rw [dec_false (show ¬ EOk e from fun h => h1 h.1)]
    go_enter Try.func15, Try.ntmps15
    go_wp2_with fail
    go_ret
    exact ⟨rfl, rfl⟩
theorem epos_any (x : Nat) (w : World) (he : x ≤ 18446744073709551615) : Calls Try.prog 42 #[.int .u64 (x : Int)] w fun en w' => en = .returned (.bool (dec (PosOk x))) ∧ w = w' := by
  by_cases h2 : x < 4611686018427387904
  · have hd2 : decide ((x : Int) < 4611686018427387904) = true := by simp; omega
    rw [dec_true (show PosOk x from h2)]
    go_enter Try.func42, Try.ntmps42
    go_wp2_with fail
    go_ret
    exact ⟨by rw [← hd2]; rfl, rfl⟩
  · have hd2 : decide ((x : Int) < 4611686018427387904) = false := by simp; omega
    rw [dec_false (show ¬ PosOk x from h2)]
    go_enter Try.func42, Try.ntmps42
    go_wp2_with fail
    go_ret
    exact ⟨by rw [← hd2]; rfl, rfl⟩
end Go.Proofs.Ytnihaaifkogpbaa
