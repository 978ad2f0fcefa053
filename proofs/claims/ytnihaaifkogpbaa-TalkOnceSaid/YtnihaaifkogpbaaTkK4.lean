/- The walk of the reference's table. -/
import Derived.Test.YtnihaaifkogpbaaTkK2
namespace Go.Proofs.Ytnihaaifkogpbaa
open Go.ChangeShapes Go.WideShapes Go.ChangeAt Go.RowKit
set_option linter.unusedVariables false

def kt42 : Array Value := #[.string ⟨#[114, 101, 97, 100]⟩, .int .i64 1, .int .i64 9, .string ⟨#[119, 114, 105, 116, 101]⟩, .int .i64 33, .int .i64 10, .string ⟨#[115, 101, 97, 108]⟩, .int .i64 0, .int .i64 11, .string ⟨#[116, 114, 105, 109]⟩, .int .i64 1, .int .i64 10, .string ⟨#[102, 105, 108, 108]⟩, .int .i64 1, .int .i64 10, .string ⟨#[116, 97, 107, 101]⟩, .int .i64 10, .int .i64 12, .string ⟨#[103, 101, 116]⟩, .int .i64 0, .int .i64 13, .string ⟨#[112, 117, 116]⟩, .int .i64 128, .int .i64 10, .string ⟨#[118, 97, 108, 117, 101]⟩, .int .i64 36, .int .i64 0, .string ⟨#[100, 111, 110, 101]⟩, .int .i64 0, .int .i64 0, .string ⟨#[115, 101, 97, 108, 101, 100]⟩, .int .i64 64, .int .i64 0, .string ⟨#[116, 97, 107, 101, 110]⟩, .int .i64 17, .int .i64 0, .string ⟨#[112, 114, 111, 106]⟩, .int .i64 128, .int .i64 0, .string ⟨#[102, 97, 105, 108, 101, 100]⟩, .int .i64 4, .int .i64 0]
set_option maxRecDepth 100000 in
theorem kt42_at (k : Int) (h0 : 1 ≤ k) (h1 : k ≤ 14) : kt42[(k.toNat - 1) * 3]? = some (.string (Kd.wd k)) ∧ kt42[(k.toNat - 1) * 3 + 1]? = some (.int .i64 (Kd.pt k)) ∧ kt42[(k.toNat - 1) * 3 + 2]? = some (.int .i64 (Kd.an k)) := by
  have : k = 1 ∨ k = 2 ∨ k = 3 ∨ k = 4 ∨ k = 5 ∨ k = 6 ∨ k = 7 ∨ k = 8 ∨ k = 9 ∨ k = 10 ∨ k = 11 ∨ k = 12 ∨ k = 13 ∨ k = 14 := by omega
  rcases this with rfl | rfl | rfl | rfl | rfl | rfl | rfl | rfl | rfl | rfl | rfl | rfl | rfl | rfl <;> exact ⟨rfl, rfl, rfl⟩
end Go.Proofs.Ytnihaaifkogpbaa
