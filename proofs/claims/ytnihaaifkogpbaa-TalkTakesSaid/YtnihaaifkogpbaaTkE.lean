/- '==' of seals. -/
import Derived.Test.YtnihaaifkogpbaaTkP
import Derived.Laws.StructEq
namespace Go.Proofs.Ytnihaaifkogpbaa
open Go.ChangeShapes Go.WideShapes Go.ChangeAt Go.RowKit
set_option linter.unusedVariables false
set_option maxRecDepth 100000 in
theorem seal_equal (x y z : Nat) (w : World) : (Op.equalIn 10000 35 (.agg #[.int .u64 (x : Int), .int .u64 (y : Int), .int .u64 (z : Int)]) (.agg #[.int .u64 0, .int .u64 0, .int .u64 0])).run Try.prog w = .ok ((x : Int) == 0 && ((y : Int) == 0 && (z : Int) == 0)) w := by
  have hS : Try.prog.underlying 35 = some (.struct (Try.prog.fieldsOf 35)) := by kernel_rfl
  have hp : Try.prog.stoodInHeld 35 = false := by kernel_rfl
  have u1 := Try.underlying29
  rw [show (10000 : Nat) = 9999 + 1 from rfl, run_equalIn_agg w 9999 35 _ _ hS hp]
  simp only [Program.fieldsOf, Try.underlying35]
  have z1 : (Go.sizeOf 29).run Try.prog w = .ok 1 w := by kernel_rfl
  go_simp
  by_cases h1 : x = 0 <;> by_cases h2 : y = 0 <;> by_cases h3 : z = 0 <;> simp [h1, h2, h3]
theorem seal_eql (x y z : Nat) (w : World) : (binOp .eql 35 (.agg #[.int .u64 (x : Int), .int .u64 (y : Int), .int .u64 (z : Int)]) (.agg #[.int .u64 0, .int .u64 0, .int .u64 0])).run Try.prog w = .ok (.bool ((x : Int) == 0 && ((y : Int) == 0 && (z : Int) == 0))) w := by
  rw [run_eql_struct, seal_equal]; rfl
theorem seal_neq (x y z : Nat) (w : World) : (binOp .neq 35 (.agg #[.int .u64 (x : Int), .int .u64 (y : Int), .int .u64 (z : Int)]) (.agg #[.int .u64 0, .int .u64 0, .int .u64 0])).run Try.prog w = .ok (.bool (!((x : Int) == 0 && ((y : Int) == 0 && (z : Int) == 0)))) w := by
  rw [run_neq_struct, seal_equal]; rfl
theorem seal_guard : Try.prog.eqGuardType Try.prog.depth 35 = false := by kernel_rfl
end Go.Proofs.Ytnihaaifkogpbaa
