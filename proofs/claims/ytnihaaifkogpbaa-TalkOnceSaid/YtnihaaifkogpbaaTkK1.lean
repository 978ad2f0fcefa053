/- The walks of chapter 27: the table, and what is told of it. -/
import Derived.Test.YtnihaaifkogpbaaCore
import Derived.Test.YtnihaaifkogpbaaTkKM
import Derived.Test.YtnihaaifkogpbaaRows
import Derived.BigQuiet
import Derived.Deep.QuietTactic
namespace Go.Proofs.Ytnihaaifkogpbaa
open Go.ChangeShapes Go.WideShapes Go.ChangeAt Go.RowKit
set_option linter.unusedVariables false

def kt45 : Array Value := #[.string ⟨#[]⟩, .int .i64 0, .int .i64 0, .string ⟨#[114, 101, 97, 100]⟩, .int .i64 1, .int .i64 9, .string ⟨#[119, 114, 105, 116, 101]⟩, .int .i64 33, .int .i64 10, .string ⟨#[115, 101, 97, 108]⟩, .int .i64 0, .int .i64 11, .string ⟨#[116, 114, 105, 109]⟩, .int .i64 1, .int .i64 10, .string ⟨#[102, 105, 108, 108]⟩, .int .i64 1, .int .i64 10, .string ⟨#[116, 97, 107, 101]⟩, .int .i64 10, .int .i64 12, .string ⟨#[103, 101, 116]⟩, .int .i64 0, .int .i64 13, .string ⟨#[112, 117, 116]⟩, .int .i64 128, .int .i64 10, .string ⟨#[118, 97, 108, 117, 101]⟩, .int .i64 36, .int .i64 0, .string ⟨#[100, 111, 110, 101]⟩, .int .i64 0, .int .i64 0, .string ⟨#[115, 101, 97, 108, 101, 100]⟩, .int .i64 64, .int .i64 0, .string ⟨#[116, 97, 107, 101, 110]⟩, .int .i64 17, .int .i64 0, .string ⟨#[112, 114, 111, 106]⟩, .int .i64 128, .int .i64 0, .string ⟨#[102, 97, 105, 108, 101, 100]⟩, .int .i64 4, .int .i64 0]
theorem kright_any (k : Int) (w : World) :
    Calls Try.prog 40 #[.int .i64 k] w fun e w' => e = .returned (.bool (Kd.right k)) ∧ w = w' := by
  by_cases h1 : 1 ≤ k
  · by_cases h2 : k ≤ 14
    · have hr : Kd.right k = true := decide_eq_true ⟨h1, h2⟩
      rw [hr]
      clear hr
      go_enter Try.func40, Try.ntmps40
      go_wp2
      go_ret
      exact ⟨rfl, rfl⟩
    · have hr : Kd.right k = false := decide_eq_false (fun h => h2 h.2)
      rw [hr]
      clear hr
      go_enter Try.func40, Try.ntmps40
      go_wp2
      go_ret
      exact ⟨rfl, rfl⟩
  · have hr : Kd.right k = false := decide_eq_false (fun h => h1 h.1)
    rw [hr]
    clear hr
    go_enter Try.func40, Try.ntmps40
    go_wp2
    go_ret
    exact ⟨rfl, rfl⟩
theorem ki45 : (Try.prog.info? 99).map (·.size) = some kt45.size := by kernel_rfl
theorem kone45 : kt45.all (·.oneCell') = true := by kernel_rfl
set_option maxHeartbeats 4000000 in
theorem ktable_any (w : World) :
    Calls Try.prog 49 #[] w fun e w' => e = .returned (.agg kt45) ∧ Below w.heap.size w w' := by
  have H := Lib.hid ki45
  have H1 := Lib.hid kone45
  go_enter Try.func49, Try.ntmps49
  go_wp2_with (refine wpList_put_row rfl 99 (.tmp 0) (.tmp 15) rfl w.heap.size kt45 rfl rfl 99 _ (Blk.new w 99 _) H.out rfl H1.out ?_; intro w2 hblk hgr)
  have hbel : Below w.heap.size w w2 := ((Below.refl _ _).alloc (Nat.le_refl _) _).grown hgr (by simp) (by intro k hk; injection hk with hk; omega)
  refine bodyPost_ret (results_cell_row rfl _ _ w.heap.size 99 kt45 (0, 0) _ rfl hblk Try.underlying99 rfl H.out) rfl ⟨rfl, hbel⟩

set_option maxRecDepth 100000 in
theorem kindex_row (k : Int) (h0 : 1 ≤ k) (h1 : k ≤ 14) (w : World) :
    (Instr.index 99 (.agg kt45) (.int .i64 k)).run Try.prog w = .ok (.agg #[.string (Kd.wd k), .int .i64 (Kd.pt k), .int .i64 (Kd.an k)]) w := by
  have : k = 1 ∨ k = 2 ∨ k = 3 ∨ k = 4 ∨ k = 5 ∨ k = 6 ∨ k = 7 ∨ k = 8 ∨ k = 9 ∨ k = 10 ∨ k = 11 ∨ k = 12 ∨ k = 13 ∨ k = 14 := by omega
  rcases this with rfl | rfl | rfl | rfl | rfl | rfl | rfl | rfl | rfl | rfl | rfl | rfl | rfl | rfl <;> rfl
end Go.Proofs.Ytnihaaifkogpbaa
