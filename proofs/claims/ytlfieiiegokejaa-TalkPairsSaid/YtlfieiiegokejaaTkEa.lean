/- '!=' of pairs of ints that are the same. -/
import Derived.Test.YtlfieiiegokejaaTkO
import Derived.Laws.StructEq
import Derived.ChangeKeysEq
namespace Go.Proofs.Ytlfieiiegokejaa
open Go.ChangeShapes Go.WideShapes Go.ChangeAt Go.RowKit
set_option linter.unusedVariables false
set_option maxRecDepth 100000 in
theorem arr_equal (x y : Int) (w : World) : (Op.equalIn 10000 54 (.agg #[.int .i64 x, .int .i64 y]) (.agg #[.int .i64 x, .int .i64 y])).run Try.prog w = .ok true w := by
  have hs : (Try.prog.info? 3).isSome = true := by kernel_rfl
  obtain ⟨i, hi⟩ := Option.isSome_iff_exists.1 hs
  have hc : Try.prog.cellsOf 3 = 1 := by kernel_rfl
  have hr : List.range 2 = [0, 1] := rfl
  have z1 : (Go.sizeOf 3).run Try.prog w = .ok 1 w := by kernel_rfl
  have u1 := Try.underlying3
  rw [show (10000 : Nat) = 9999 + 1 from rfl, run_equalIn_array w 9999 _ _ Try.underlying54 hi, hc, hr]
  simp only [Op.eqItems]
  go_simp
theorem arr_neq (x y : Int) (w : World) : (binOp .neq 54 (.agg #[.int .i64 x, .int .i64 y]) (.agg #[.int .i64 x, .int .i64 y])).run Try.prog w = .ok (.bool false) w := by
  rw [run_neq_struct, arr_equal]; rfl
theorem arr_guard : Try.prog.eqGuardType Try.prog.depth 54 = false := by kernel_rfl
end Go.Proofs.Ytlfieiiegokejaa
