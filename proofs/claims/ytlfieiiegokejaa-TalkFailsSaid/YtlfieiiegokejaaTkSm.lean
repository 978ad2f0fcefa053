/- A message without lists is the same as itself (tholepinref28.Same). -/
import Derived.Test.YtlfieiiegokejaaTkLw
import Derived.Test.YtlfieiiegokejaaTkE
import Derived.Lib.ConvBytes
namespace Go.Proofs.Ytlfieiiegokejaa
open Go.ChangeShapes Go.WideShapes Go.ChangeAt Go.RowKit
set_option linter.unusedVariables false
abbrev szV (a : Int) (b c : Nat) (d : Int) : Array Value := #[.int .i64 a, .int .u64 (b : Int), .int .u64 (c : Int), .int .u64 0, .int .i64 0, .int .i64 d, .slice none 0 0, .slice none 0 0, .slice none 0 0, .int .u64 0, .int .u64 0, .int .u64 0, .int .u64 0, .slice none 0 0]
theorem same05_nil (w : World) : Calls Try.prog 34 #[.slice none 0 0, .slice none 0 0] w fun e w' => e = .returned (.bool true) ∧ Below w.heap.size w w' := by
  go_enter Try.func34, Try.ntmps34
  go_wp2_with fail
  go_loopw [5] (fun i wr => i = .int .i64 0 ∧ wr = w) (fun _ _ => 0)
  case atStart => exact ⟨rfl, rfl⟩
  case round =>
    obtain ⟨rfl, rfl⟩ := hrel
    go_wp2_with fail
    go_ret
    exact ⟨rfl, Below.refl _ _⟩
theorem same23_nil (w : World) : Calls Try.prog 35 #[.slice none 0 0, .slice none 0 0] w fun e w' => e = .returned (.bool true) ∧ Below w.heap.size w w' := by
  go_enter Try.func35, Try.ntmps35
  go_wp2_with fail
  go_loopw [5] (fun i wr => i = .int .i64 0 ∧ wr = w) (fun _ _ => 0)
  case atStart => exact ⟨rfl, rfl⟩
  case round =>
    obtain ⟨rfl, rfl⟩ := hrel
    go_wp2_with fail
    go_ret
    exact ⟨rfl, Below.refl _ _⟩
theorem same02_nil (w : World) : Calls Try.prog 36 #[.slice none 0 0, .slice none 0 0] w fun e w' => e = .returned (.bool true) ∧ Below w.heap.size w w' := by
  have h1 := run_bytes_string (P := Try.prog) (Rp.sl_nil rpU8 w (fun _ => False) none 0 (by decide)) 25 9 5 Try.underlying25 Try.underlying5 Try.underlying9
  go_enter Try.func36, Try.ntmps36
  go_wp2_with fail
  go_ret
  exact ⟨by first | rfl | simp, Below.refl _ _⟩
theorem same20_nil (e : Nat) (w : World) : Calls Try.prog 37 #[.agg #[.int .u64 (e : Int), .slice none 0 0], .agg #[.int .u64 (e : Int), .slice none 0 0]] w fun e w' => e = .returned (.bool true) ∧ Below w.heap.size w w' := by
  have HB := Lib.hid (below2 w (.cells #[.int .u64 (e : Int), .slice none 0 0] 30) (.cells #[.int .u64 (e : Int), .slice none 0 0] 30))
  have K1 := Lib.hid (blk21 w 30 30 #[.int .u64 (e : Int), .slice none 0 0] #[.int .u64 (e : Int), .slice none 0 0])
  have K2 := Lib.hid (blk22 w 30 30 #[.int .u64 (e : Int), .slice none 0 0] #[.int .u64 (e : Int), .slice none 0 0])
  go_enter Try.func37, Try.ntmps37
  go_upto_region 1 with (fail)
  generalize World.alloc (World.alloc w _) _ = w2 at *
  have z0 : w2.cell? ⟨w.heap.size, 0, none⟩ = some (.int .u64 (e : Int)) := (show Blk w2 w.heap.size 30 _ from K1.out).cell 0
  have z1 : w2.cell? ⟨w.heap.size, 1, none⟩ = some (.slice none 0 0) := (show Blk w2 w.heap.size 30 _ from K1.out).cell 1
  have y0 : w2.cell? ⟨w.heap.size + 1, 0, none⟩ = some (.int .u64 (e : Int)) := (show Blk w2 (w.heap.size + 1) 30 _ from K2.out).cell 0
  have y1 : w2.cell? ⟨w.heap.size + 1, 1, none⟩ = some (.slice none 0 0) := (show Blk w2 (w.heap.size + 1) 30 _ from K2.out).cell 1
  go_wp2_with fail
  go_loopw [5] (fun i wr => i = .int .i64 0 ∧ wr = w2) (fun _ _ => 0)
  case atStart => exact ⟨rfl, rfl⟩
  case round =>
    obtain ⟨rfl, rfl⟩ := hrel
    go_wp2_with fail
    go_ret
    exact ⟨rfl, HB.out⟩
theorem seal_neq0 (w : World) : (binOp .neq 27 (.agg #[.int .u64 0, .int .u64 0, .int .u64 0]) (.agg #[.int .u64 0, .int .u64 0, .int .u64 0])).run Try.prog w = .ok (.bool false) w := seal_neq 0 0 0 w
set_option maxRecDepth 100000 in
set_option maxHeartbeats 2000000 in
theorem rsame_z (a : Int) (b c : Nat) (d : Int) (w : World) : Calls Try.prog 16 #[.agg (szV a b c d), .agg (szV a b c d)] w fun e w' => e = .returned (.bool true) ∧ Below w.heap.size w w' := by
  have HB2 := Lib.hid (below2 w (.cells (szV a b c d) 32) (.cells (szV a b c d) 32))
  have KX2 := Lib.hid (blk21 w 32 32 (szV a b c d) (szV a b c d))
  have KY2 := Lib.hid (blk22 w 32 32 (szV a b c d) (szV a b c d))
  have hsn := seal_neq0
  have hsg := seal_guard
  go_enter Try.func16, Try.ntmps16
  go_upto_region 1 with (fail)
  generalize World.alloc (World.alloc w _) _ = w2 at *
  have z0 : w2.cell? ⟨w.heap.size, 0, none⟩ = some (.int .i64 a) := (show Blk w2 (w.heap.size) 32 (szV a b c d) from KX2.out).cell 0
  have z1 : w2.cell? ⟨w.heap.size, 1, none⟩ = some (.int .u64 (b : Int)) := (show Blk w2 (w.heap.size) 32 (szV a b c d) from KX2.out).cell 1
  have z2 : w2.cell? ⟨w.heap.size, 2, none⟩ = some (.int .u64 (c : Int)) := (show Blk w2 (w.heap.size) 32 (szV a b c d) from KX2.out).cell 2
  have z3 : w2.cell? ⟨w.heap.size, 3, none⟩ = some (.int .u64 0) := (show Blk w2 (w.heap.size) 32 (szV a b c d) from KX2.out).cell 3
  have z4 : w2.cell? ⟨w.heap.size, 4, none⟩ = some (.int .i64 0) := (show Blk w2 (w.heap.size) 32 (szV a b c d) from KX2.out).cell 4
  have z5 : w2.cell? ⟨w.heap.size, 5, none⟩ = some (.int .i64 d) := (show Blk w2 (w.heap.size) 32 (szV a b c d) from KX2.out).cell 5
  have z6 : w2.cell? ⟨w.heap.size, 6, none⟩ = some (.slice none 0 0) := (show Blk w2 (w.heap.size) 32 (szV a b c d) from KX2.out).cell 6
  have z7 : w2.cell? ⟨w.heap.size, 7, none⟩ = some (.slice none 0 0) := (show Blk w2 (w.heap.size) 32 (szV a b c d) from KX2.out).cell 7
  have z8 : w2.cell? ⟨w.heap.size, 8, none⟩ = some (.slice none 0 0) := (show Blk w2 (w.heap.size) 32 (szV a b c d) from KX2.out).cell 8
  have z9 : w2.cell? ⟨w.heap.size, 9, none⟩ = some (.int .u64 0) := (show Blk w2 (w.heap.size) 32 (szV a b c d) from KX2.out).cell 9
  have z10 : w2.cell? ⟨w.heap.size, 10, none⟩ = some (.int .u64 0) := (show Blk w2 (w.heap.size) 32 (szV a b c d) from KX2.out).cell 10
  have z11 : w2.cell? ⟨w.heap.size, 11, none⟩ = some (.int .u64 0) := (show Blk w2 (w.heap.size) 32 (szV a b c d) from KX2.out).cell 11
  have z12 : w2.cell? ⟨w.heap.size, 12, none⟩ = some (.int .u64 0) := (show Blk w2 (w.heap.size) 32 (szV a b c d) from KX2.out).cell 12
  have z13 : w2.cell? ⟨w.heap.size, 13, none⟩ = some (.slice none 0 0) := (show Blk w2 (w.heap.size) 32 (szV a b c d) from KX2.out).cell 13
  have y0 : w2.cell? ⟨w.heap.size + 1, 0, none⟩ = some (.int .i64 a) := (show Blk w2 (w.heap.size + 1) 32 (szV a b c d) from KY2.out).cell 0
  have y1 : w2.cell? ⟨w.heap.size + 1, 1, none⟩ = some (.int .u64 (b : Int)) := (show Blk w2 (w.heap.size + 1) 32 (szV a b c d) from KY2.out).cell 1
  have y2 : w2.cell? ⟨w.heap.size + 1, 2, none⟩ = some (.int .u64 (c : Int)) := (show Blk w2 (w.heap.size + 1) 32 (szV a b c d) from KY2.out).cell 2
  have y3 : w2.cell? ⟨w.heap.size + 1, 3, none⟩ = some (.int .u64 0) := (show Blk w2 (w.heap.size + 1) 32 (szV a b c d) from KY2.out).cell 3
  have y4 : w2.cell? ⟨w.heap.size + 1, 4, none⟩ = some (.int .i64 0) := (show Blk w2 (w.heap.size + 1) 32 (szV a b c d) from KY2.out).cell 4
  have y5 : w2.cell? ⟨w.heap.size + 1, 5, none⟩ = some (.int .i64 d) := (show Blk w2 (w.heap.size + 1) 32 (szV a b c d) from KY2.out).cell 5
  have y6 : w2.cell? ⟨w.heap.size + 1, 6, none⟩ = some (.slice none 0 0) := (show Blk w2 (w.heap.size + 1) 32 (szV a b c d) from KY2.out).cell 6
  have y7 : w2.cell? ⟨w.heap.size + 1, 7, none⟩ = some (.slice none 0 0) := (show Blk w2 (w.heap.size + 1) 32 (szV a b c d) from KY2.out).cell 7
  have y8 : w2.cell? ⟨w.heap.size + 1, 8, none⟩ = some (.slice none 0 0) := (show Blk w2 (w.heap.size + 1) 32 (szV a b c d) from KY2.out).cell 8
  have y9 : w2.cell? ⟨w.heap.size + 1, 9, none⟩ = some (.int .u64 0) := (show Blk w2 (w.heap.size + 1) 32 (szV a b c d) from KY2.out).cell 9
  have y10 : w2.cell? ⟨w.heap.size + 1, 10, none⟩ = some (.int .u64 0) := (show Blk w2 (w.heap.size + 1) 32 (szV a b c d) from KY2.out).cell 10
  have y11 : w2.cell? ⟨w.heap.size + 1, 11, none⟩ = some (.int .u64 0) := (show Blk w2 (w.heap.size + 1) 32 (szV a b c d) from KY2.out).cell 11
  have y12 : w2.cell? ⟨w.heap.size + 1, 12, none⟩ = some (.int .u64 0) := (show Blk w2 (w.heap.size + 1) 32 (szV a b c d) from KY2.out).cell 12
  have y13 : w2.cell? ⟨w.heap.size + 1, 13, none⟩ = some (.slice none 0 0) := (show Blk w2 (w.heap.size + 1) 32 (szV a b c d) from KY2.out).cell 13
  go_wp2_with fail
  refine (same05_nil _).mono ?_; rintro e w3 ⟨rfl, hb⟩
  have HB3 := Lib.hid (stepB HB2.out hb)
  have KX3 := Lib.hid (keepB (show Blk w2 w.heap.size 32 (szV a b c d) from KX2.out) hb)
  have KY3 := Lib.hid (keepB (show Blk w2 (w.heap.size + 1) 32 (szV a b c d) from KY2.out) hb)
  clear hb
  clear z0 y0 z1 y1 z2 y2 z3 y3 z4 y4 z5 y5 z6 y6 z7 y7 z8 y8 z9 y9 z10 y10 z11 y11 z12 y12 z13 y13
  have z0 : w3.cell? ⟨w.heap.size, 0, none⟩ = some (.int .i64 a) := (show Blk w3 (w.heap.size) 32 (szV a b c d) from KX3.out).cell 0
  have z1 : w3.cell? ⟨w.heap.size, 1, none⟩ = some (.int .u64 (b : Int)) := (show Blk w3 (w.heap.size) 32 (szV a b c d) from KX3.out).cell 1
  have z2 : w3.cell? ⟨w.heap.size, 2, none⟩ = some (.int .u64 (c : Int)) := (show Blk w3 (w.heap.size) 32 (szV a b c d) from KX3.out).cell 2
  have z3 : w3.cell? ⟨w.heap.size, 3, none⟩ = some (.int .u64 0) := (show Blk w3 (w.heap.size) 32 (szV a b c d) from KX3.out).cell 3
  have z4 : w3.cell? ⟨w.heap.size, 4, none⟩ = some (.int .i64 0) := (show Blk w3 (w.heap.size) 32 (szV a b c d) from KX3.out).cell 4
  have z5 : w3.cell? ⟨w.heap.size, 5, none⟩ = some (.int .i64 d) := (show Blk w3 (w.heap.size) 32 (szV a b c d) from KX3.out).cell 5
  have z6 : w3.cell? ⟨w.heap.size, 6, none⟩ = some (.slice none 0 0) := (show Blk w3 (w.heap.size) 32 (szV a b c d) from KX3.out).cell 6
  have z7 : w3.cell? ⟨w.heap.size, 7, none⟩ = some (.slice none 0 0) := (show Blk w3 (w.heap.size) 32 (szV a b c d) from KX3.out).cell 7
  have z8 : w3.cell? ⟨w.heap.size, 8, none⟩ = some (.slice none 0 0) := (show Blk w3 (w.heap.size) 32 (szV a b c d) from KX3.out).cell 8
  have z9 : w3.cell? ⟨w.heap.size, 9, none⟩ = some (.int .u64 0) := (show Blk w3 (w.heap.size) 32 (szV a b c d) from KX3.out).cell 9
  have z10 : w3.cell? ⟨w.heap.size, 10, none⟩ = some (.int .u64 0) := (show Blk w3 (w.heap.size) 32 (szV a b c d) from KX3.out).cell 10
  have z11 : w3.cell? ⟨w.heap.size, 11, none⟩ = some (.int .u64 0) := (show Blk w3 (w.heap.size) 32 (szV a b c d) from KX3.out).cell 11
  have z12 : w3.cell? ⟨w.heap.size, 12, none⟩ = some (.int .u64 0) := (show Blk w3 (w.heap.size) 32 (szV a b c d) from KX3.out).cell 12
  have z13 : w3.cell? ⟨w.heap.size, 13, none⟩ = some (.slice none 0 0) := (show Blk w3 (w.heap.size) 32 (szV a b c d) from KX3.out).cell 13
  have y0 : w3.cell? ⟨w.heap.size + 1, 0, none⟩ = some (.int .i64 a) := (show Blk w3 (w.heap.size + 1) 32 (szV a b c d) from KY3.out).cell 0
  have y1 : w3.cell? ⟨w.heap.size + 1, 1, none⟩ = some (.int .u64 (b : Int)) := (show Blk w3 (w.heap.size + 1) 32 (szV a b c d) from KY3.out).cell 1
  have y2 : w3.cell? ⟨w.heap.size + 1, 2, none⟩ = some (.int .u64 (c : Int)) := (show Blk w3 (w.heap.size + 1) 32 (szV a b c d) from KY3.out).cell 2
  have y3 : w3.cell? ⟨w.heap.size + 1, 3, none⟩ = some (.int .u64 0) := (show Blk w3 (w.heap.size + 1) 32 (szV a b c d) from KY3.out).cell 3
  have y4 : w3.cell? ⟨w.heap.size + 1, 4, none⟩ = some (.int .i64 0) := (show Blk w3 (w.heap.size + 1) 32 (szV a b c d) from KY3.out).cell 4
  have y5 : w3.cell? ⟨w.heap.size + 1, 5, none⟩ = some (.int .i64 d) := (show Blk w3 (w.heap.size + 1) 32 (szV a b c d) from KY3.out).cell 5
  have y6 : w3.cell? ⟨w.heap.size + 1, 6, none⟩ = some (.slice none 0 0) := (show Blk w3 (w.heap.size + 1) 32 (szV a b c d) from KY3.out).cell 6
  have y7 : w3.cell? ⟨w.heap.size + 1, 7, none⟩ = some (.slice none 0 0) := (show Blk w3 (w.heap.size + 1) 32 (szV a b c d) from KY3.out).cell 7
  have y8 : w3.cell? ⟨w.heap.size + 1, 8, none⟩ = some (.slice none 0 0) := (show Blk w3 (w.heap.size + 1) 32 (szV a b c d) from KY3.out).cell 8
  have y9 : w3.cell? ⟨w.heap.size + 1, 9, none⟩ = some (.int .u64 0) := (show Blk w3 (w.heap.size + 1) 32 (szV a b c d) from KY3.out).cell 9
  have y10 : w3.cell? ⟨w.heap.size + 1, 10, none⟩ = some (.int .u64 0) := (show Blk w3 (w.heap.size + 1) 32 (szV a b c d) from KY3.out).cell 10
  have y11 : w3.cell? ⟨w.heap.size + 1, 11, none⟩ = some (.int .u64 0) := (show Blk w3 (w.heap.size + 1) 32 (szV a b c d) from KY3.out).cell 11
  have y12 : w3.cell? ⟨w.heap.size + 1, 12, none⟩ = some (.int .u64 0) := (show Blk w3 (w.heap.size + 1) 32 (szV a b c d) from KY3.out).cell 12
  have y13 : w3.cell? ⟨w.heap.size + 1, 13, none⟩ = some (.slice none 0 0) := (show Blk w3 (w.heap.size + 1) 32 (szV a b c d) from KY3.out).cell 13
  go_wp2_with fail
  refine (same23_nil _).mono ?_; rintro e w4 ⟨rfl, hb⟩
  have HB4 := Lib.hid (stepB HB3.out hb)
  have KX4 := Lib.hid (keepB (show Blk w3 w.heap.size 32 (szV a b c d) from KX3.out) hb)
  have KY4 := Lib.hid (keepB (show Blk w3 (w.heap.size + 1) 32 (szV a b c d) from KY3.out) hb)
  clear hb
  clear z0 y0 z1 y1 z2 y2 z3 y3 z4 y4 z5 y5 z6 y6 z7 y7 z8 y8 z9 y9 z10 y10 z11 y11 z12 y12 z13 y13
  have z0 : w4.cell? ⟨w.heap.size, 0, none⟩ = some (.int .i64 a) := (show Blk w4 (w.heap.size) 32 (szV a b c d) from KX4.out).cell 0
  have z1 : w4.cell? ⟨w.heap.size, 1, none⟩ = some (.int .u64 (b : Int)) := (show Blk w4 (w.heap.size) 32 (szV a b c d) from KX4.out).cell 1
  have z2 : w4.cell? ⟨w.heap.size, 2, none⟩ = some (.int .u64 (c : Int)) := (show Blk w4 (w.heap.size) 32 (szV a b c d) from KX4.out).cell 2
  have z3 : w4.cell? ⟨w.heap.size, 3, none⟩ = some (.int .u64 0) := (show Blk w4 (w.heap.size) 32 (szV a b c d) from KX4.out).cell 3
  have z4 : w4.cell? ⟨w.heap.size, 4, none⟩ = some (.int .i64 0) := (show Blk w4 (w.heap.size) 32 (szV a b c d) from KX4.out).cell 4
  have z5 : w4.cell? ⟨w.heap.size, 5, none⟩ = some (.int .i64 d) := (show Blk w4 (w.heap.size) 32 (szV a b c d) from KX4.out).cell 5
  have z6 : w4.cell? ⟨w.heap.size, 6, none⟩ = some (.slice none 0 0) := (show Blk w4 (w.heap.size) 32 (szV a b c d) from KX4.out).cell 6
  have z7 : w4.cell? ⟨w.heap.size, 7, none⟩ = some (.slice none 0 0) := (show Blk w4 (w.heap.size) 32 (szV a b c d) from KX4.out).cell 7
  have z8 : w4.cell? ⟨w.heap.size, 8, none⟩ = some (.slice none 0 0) := (show Blk w4 (w.heap.size) 32 (szV a b c d) from KX4.out).cell 8
  have z9 : w4.cell? ⟨w.heap.size, 9, none⟩ = some (.int .u64 0) := (show Blk w4 (w.heap.size) 32 (szV a b c d) from KX4.out).cell 9
  have z10 : w4.cell? ⟨w.heap.size, 10, none⟩ = some (.int .u64 0) := (show Blk w4 (w.heap.size) 32 (szV a b c d) from KX4.out).cell 10
  have z11 : w4.cell? ⟨w.heap.size, 11, none⟩ = some (.int .u64 0) := (show Blk w4 (w.heap.size) 32 (szV a b c d) from KX4.out).cell 11
  have z12 : w4.cell? ⟨w.heap.size, 12, none⟩ = some (.int .u64 0) := (show Blk w4 (w.heap.size) 32 (szV a b c d) from KX4.out).cell 12
  have z13 : w4.cell? ⟨w.heap.size, 13, none⟩ = some (.slice none 0 0) := (show Blk w4 (w.heap.size) 32 (szV a b c d) from KX4.out).cell 13
  have y0 : w4.cell? ⟨w.heap.size + 1, 0, none⟩ = some (.int .i64 a) := (show Blk w4 (w.heap.size + 1) 32 (szV a b c d) from KY4.out).cell 0
  have y1 : w4.cell? ⟨w.heap.size + 1, 1, none⟩ = some (.int .u64 (b : Int)) := (show Blk w4 (w.heap.size + 1) 32 (szV a b c d) from KY4.out).cell 1
  have y2 : w4.cell? ⟨w.heap.size + 1, 2, none⟩ = some (.int .u64 (c : Int)) := (show Blk w4 (w.heap.size + 1) 32 (szV a b c d) from KY4.out).cell 2
  have y3 : w4.cell? ⟨w.heap.size + 1, 3, none⟩ = some (.int .u64 0) := (show Blk w4 (w.heap.size + 1) 32 (szV a b c d) from KY4.out).cell 3
  have y4 : w4.cell? ⟨w.heap.size + 1, 4, none⟩ = some (.int .i64 0) := (show Blk w4 (w.heap.size + 1) 32 (szV a b c d) from KY4.out).cell 4
  have y5 : w4.cell? ⟨w.heap.size + 1, 5, none⟩ = some (.int .i64 d) := (show Blk w4 (w.heap.size + 1) 32 (szV a b c d) from KY4.out).cell 5
  have y6 : w4.cell? ⟨w.heap.size + 1, 6, none⟩ = some (.slice none 0 0) := (show Blk w4 (w.heap.size + 1) 32 (szV a b c d) from KY4.out).cell 6
  have y7 : w4.cell? ⟨w.heap.size + 1, 7, none⟩ = some (.slice none 0 0) := (show Blk w4 (w.heap.size + 1) 32 (szV a b c d) from KY4.out).cell 7
  have y8 : w4.cell? ⟨w.heap.size + 1, 8, none⟩ = some (.slice none 0 0) := (show Blk w4 (w.heap.size + 1) 32 (szV a b c d) from KY4.out).cell 8
  have y9 : w4.cell? ⟨w.heap.size + 1, 9, none⟩ = some (.int .u64 0) := (show Blk w4 (w.heap.size + 1) 32 (szV a b c d) from KY4.out).cell 9
  have y10 : w4.cell? ⟨w.heap.size + 1, 10, none⟩ = some (.int .u64 0) := (show Blk w4 (w.heap.size + 1) 32 (szV a b c d) from KY4.out).cell 10
  have y11 : w4.cell? ⟨w.heap.size + 1, 11, none⟩ = some (.int .u64 0) := (show Blk w4 (w.heap.size + 1) 32 (szV a b c d) from KY4.out).cell 11
  have y12 : w4.cell? ⟨w.heap.size + 1, 12, none⟩ = some (.int .u64 0) := (show Blk w4 (w.heap.size + 1) 32 (szV a b c d) from KY4.out).cell 12
  have y13 : w4.cell? ⟨w.heap.size + 1, 13, none⟩ = some (.slice none 0 0) := (show Blk w4 (w.heap.size + 1) 32 (szV a b c d) from KY4.out).cell 13
  go_wp2_with fail
  refine (same02_nil _).mono ?_; rintro e w5 ⟨rfl, hb⟩
  have HB5 := Lib.hid (stepB HB4.out hb)
  have KX5 := Lib.hid (keepB (show Blk w4 w.heap.size 32 (szV a b c d) from KX4.out) hb)
  have KY5 := Lib.hid (keepB (show Blk w4 (w.heap.size + 1) 32 (szV a b c d) from KY4.out) hb)
  clear hb
  clear z0 y0 z1 y1 z2 y2 z3 y3 z4 y4 z5 y5 z6 y6 z7 y7 z8 y8 z9 y9 z10 y10 z11 y11 z12 y12 z13 y13
  have z0 : w5.cell? ⟨w.heap.size, 0, none⟩ = some (.int .i64 a) := (show Blk w5 (w.heap.size) 32 (szV a b c d) from KX5.out).cell 0
  have z1 : w5.cell? ⟨w.heap.size, 1, none⟩ = some (.int .u64 (b : Int)) := (show Blk w5 (w.heap.size) 32 (szV a b c d) from KX5.out).cell 1
  have z2 : w5.cell? ⟨w.heap.size, 2, none⟩ = some (.int .u64 (c : Int)) := (show Blk w5 (w.heap.size) 32 (szV a b c d) from KX5.out).cell 2
  have z3 : w5.cell? ⟨w.heap.size, 3, none⟩ = some (.int .u64 0) := (show Blk w5 (w.heap.size) 32 (szV a b c d) from KX5.out).cell 3
  have z4 : w5.cell? ⟨w.heap.size, 4, none⟩ = some (.int .i64 0) := (show Blk w5 (w.heap.size) 32 (szV a b c d) from KX5.out).cell 4
  have z5 : w5.cell? ⟨w.heap.size, 5, none⟩ = some (.int .i64 d) := (show Blk w5 (w.heap.size) 32 (szV a b c d) from KX5.out).cell 5
  have z6 : w5.cell? ⟨w.heap.size, 6, none⟩ = some (.slice none 0 0) := (show Blk w5 (w.heap.size) 32 (szV a b c d) from KX5.out).cell 6
  have z7 : w5.cell? ⟨w.heap.size, 7, none⟩ = some (.slice none 0 0) := (show Blk w5 (w.heap.size) 32 (szV a b c d) from KX5.out).cell 7
  have z8 : w5.cell? ⟨w.heap.size, 8, none⟩ = some (.slice none 0 0) := (show Blk w5 (w.heap.size) 32 (szV a b c d) from KX5.out).cell 8
  have z9 : w5.cell? ⟨w.heap.size, 9, none⟩ = some (.int .u64 0) := (show Blk w5 (w.heap.size) 32 (szV a b c d) from KX5.out).cell 9
  have z10 : w5.cell? ⟨w.heap.size, 10, none⟩ = some (.int .u64 0) := (show Blk w5 (w.heap.size) 32 (szV a b c d) from KX5.out).cell 10
  have z11 : w5.cell? ⟨w.heap.size, 11, none⟩ = some (.int .u64 0) := (show Blk w5 (w.heap.size) 32 (szV a b c d) from KX5.out).cell 11
  have z12 : w5.cell? ⟨w.heap.size, 12, none⟩ = some (.int .u64 0) := (show Blk w5 (w.heap.size) 32 (szV a b c d) from KX5.out).cell 12
  have z13 : w5.cell? ⟨w.heap.size, 13, none⟩ = some (.slice none 0 0) := (show Blk w5 (w.heap.size) 32 (szV a b c d) from KX5.out).cell 13
  have y0 : w5.cell? ⟨w.heap.size + 1, 0, none⟩ = some (.int .i64 a) := (show Blk w5 (w.heap.size + 1) 32 (szV a b c d) from KY5.out).cell 0
  have y1 : w5.cell? ⟨w.heap.size + 1, 1, none⟩ = some (.int .u64 (b : Int)) := (show Blk w5 (w.heap.size + 1) 32 (szV a b c d) from KY5.out).cell 1
  have y2 : w5.cell? ⟨w.heap.size + 1, 2, none⟩ = some (.int .u64 (c : Int)) := (show Blk w5 (w.heap.size + 1) 32 (szV a b c d) from KY5.out).cell 2
  have y3 : w5.cell? ⟨w.heap.size + 1, 3, none⟩ = some (.int .u64 0) := (show Blk w5 (w.heap.size + 1) 32 (szV a b c d) from KY5.out).cell 3
  have y4 : w5.cell? ⟨w.heap.size + 1, 4, none⟩ = some (.int .i64 0) := (show Blk w5 (w.heap.size + 1) 32 (szV a b c d) from KY5.out).cell 4
  have y5 : w5.cell? ⟨w.heap.size + 1, 5, none⟩ = some (.int .i64 d) := (show Blk w5 (w.heap.size + 1) 32 (szV a b c d) from KY5.out).cell 5
  have y6 : w5.cell? ⟨w.heap.size + 1, 6, none⟩ = some (.slice none 0 0) := (show Blk w5 (w.heap.size + 1) 32 (szV a b c d) from KY5.out).cell 6
  have y7 : w5.cell? ⟨w.heap.size + 1, 7, none⟩ = some (.slice none 0 0) := (show Blk w5 (w.heap.size + 1) 32 (szV a b c d) from KY5.out).cell 7
  have y8 : w5.cell? ⟨w.heap.size + 1, 8, none⟩ = some (.slice none 0 0) := (show Blk w5 (w.heap.size + 1) 32 (szV a b c d) from KY5.out).cell 8
  have y9 : w5.cell? ⟨w.heap.size + 1, 9, none⟩ = some (.int .u64 0) := (show Blk w5 (w.heap.size + 1) 32 (szV a b c d) from KY5.out).cell 9
  have y10 : w5.cell? ⟨w.heap.size + 1, 10, none⟩ = some (.int .u64 0) := (show Blk w5 (w.heap.size + 1) 32 (szV a b c d) from KY5.out).cell 10
  have y11 : w5.cell? ⟨w.heap.size + 1, 11, none⟩ = some (.int .u64 0) := (show Blk w5 (w.heap.size + 1) 32 (szV a b c d) from KY5.out).cell 11
  have y12 : w5.cell? ⟨w.heap.size + 1, 12, none⟩ = some (.int .u64 0) := (show Blk w5 (w.heap.size + 1) 32 (szV a b c d) from KY5.out).cell 12
  have y13 : w5.cell? ⟨w.heap.size + 1, 13, none⟩ = some (.slice none 0 0) := (show Blk w5 (w.heap.size + 1) 32 (szV a b c d) from KY5.out).cell 13
  go_wp2_with fail
  refine (same20_nil 0 _).mono ?_; rintro e w6 ⟨rfl, hb⟩
  have HB6 := Lib.hid (stepB HB5.out hb)
  have KX6 := Lib.hid (keepB (show Blk w5 w.heap.size 32 (szV a b c d) from KX5.out) hb)
  have KY6 := Lib.hid (keepB (show Blk w5 (w.heap.size + 1) 32 (szV a b c d) from KY5.out) hb)
  clear hb
  clear z0 y0 z1 y1 z2 y2 z3 y3 z4 y4 z5 y5 z6 y6 z7 y7 z8 y8 z9 y9 z10 y10 z11 y11 z12 y12 z13 y13
  go_wp2_with fail
  go_ret
  exact ⟨rfl, HB6.out⟩
end Go.Proofs.Ytlfieiiegokejaa
