/- The walks of chapter 27: what is told of a kind. -/
import Derived.Test.YtnihaaifkogpbaaTkK1
namespace Go.Proofs.Ytnihaaifkogpbaa
open Go.ChangeShapes Go.WideShapes Go.ChangeAt Go.RowKit
set_option linter.unusedVariables false
theorem ki3 : (Try.prog.info? 77).map (·.size) = some 3 := by kernel_rfl
theorem kof_any (k : Int) (w : World) :
    Calls Try.prog 26 #[.int .i64 k] w fun e w' => e = .returned (.agg #[.string (Kd.wd k), .int .i64 (Kd.pt k), .int .i64 (Kd.an k)]) ∧ Below w.heap.size w w' := by
  have H3 := Lib.hid ki3
  by_cases h : 1 ≤ k ∧ k ≤ 14
  · have hr : Kd.right k = true := decide_eq_true h
    have hi := kindex_row k h.1 h.2
    generalize Kd.wd k = a at *
    generalize Kd.pt k = b at *
    generalize Kd.an k = c at *
    have hra := kright_any k
    rw [hr] at hra
    have HRA := Lib.hid hra
    clear hra hr h
    go_enter Try.func26, Try.ntmps26
    go_wp2_with (first
      | (go_at_call 40; refine (HRA.out _).mono ?_; rintro e w' ⟨rfl, rfl⟩)
      | (go_at_call 49; refine (ktable_any _).mono ?_; rintro e w1 ⟨rfl, hb1⟩
         have hblk1 := (Blk.new w 77 #[.string ⟨#[]⟩, .int .i64 0, .int .i64 0]).below hb1 (by simp))
      | (refine wpList_put_row rfl 77 (.tmp 2) (.tmp 9) rfl w.heap.size #[.string a, .int .i64 b, .int .i64 c] rfl rfl 77 _ hblk1 H3.out rfl (by simp [Value.oneCell']) ?_; intro w2 hblk hgr))
    have hbel : Below w.heap.size w w2 := (((Below.refl _ _).alloc (Nat.le_refl _) _).trans (hb1.mono (by simp))).grown hgr (by have := hb1.size; simp at this; omega) (by intro k hk; injection hk with hk; omega)
    refine bodyPost_ret (results_cell_row rfl _ _ w.heap.size 77 _ (0, 0) _ rfl hblk Try.underlying77 rfl H3.out) rfl ⟨rfl, hbel⟩
  · have hr : Kd.right k = false := decide_eq_false h
    have hidx : Kd.idx k = 0 := if_neg h
    have e1 : Kd.wd k = ⟨#[]⟩ := by unfold Kd.wd; rw [hidx]; rfl
    have e2 : Kd.pt k = 0 := by unfold Kd.pt; rw [hidx]; rfl
    have e3 : Kd.an k = 0 := by unfold Kd.an; rw [hidx]; rfl
    rw [e1, e2, e3]
    have hra := kright_any k
    rw [hr] at hra
    have HRA := Lib.hid hra
    clear hra hr h hidx e1 e2 e3
    go_enter Try.func26, Try.ntmps26
    go_wp2_with (first
      | (go_at_call 40; refine (HRA.out _).mono ?_; rintro e w' ⟨rfl, rfl⟩)
      | (refine wpList_put_row rfl 77 (.tmp 2) (.tmp 6) rfl w.heap.size #[.string ⟨#[]⟩, .int .i64 0, .int .i64 0] rfl rfl 77 _ (Blk.new w 77 _) H3.out rfl (by simp [Value.oneCell']) ?_; intro w2 hblk hgr))
    have hbel : Below w.heap.size w w2 := ((Below.refl _ _).alloc (Nat.le_refl _) _).grown hgr (by simp) (by intro k hk; injection hk with hk; omega)
    refine bodyPost_ret (results_cell_row rfl _ _ w.heap.size 77 _ (0, 0) _ rfl hblk Try.underlying77 rfl H3.out) rfl ⟨rfl, hbel⟩
set_option maxRecDepth 100000 in
theorem kf0 (a : ByteArray) (b c : Int) (w : World) : (Instr.field 77 (.agg #[.string a, .int .i64 b, .int .i64 c]) 0).run Try.prog w = .ok (.string a) w := rfl
set_option maxRecDepth 100000 in
theorem kf1 (a : ByteArray) (b c : Int) (w : World) : (Instr.field 77 (.agg #[.string a, .int .i64 b, .int .i64 c]) 1).run Try.prog w = .ok (.int .i64 b) w := rfl
set_option maxRecDepth 100000 in
theorem kf2 (a : ByteArray) (b c : Int) (w : World) : (Instr.field 77 (.agg #[.string a, .int .i64 b, .int .i64 c]) 2).run Try.prog w = .ok (.int .i64 c) w := rfl
theorem krequest_any (k : Int) (w : World) :
    Calls Try.prog 17 #[.int .i64 k] w fun e w' => e = .returned (.bool (Kd.an k != 0)) ∧ Below w.heap.size w w' := by
  have hf := kf2
  go_enter Try.func17, Try.ntmps17
  go_wp2_with (go_at_call 26; refine (kof_any k _).mono ?_; rintro e w1 ⟨rfl, hb1⟩)
  go_ret
  exact ⟨rfl, hb1⟩
theorem kparts_any (k : Int) (w : World) :
    Calls Try.prog 77 #[.int .i64 k] w fun e w' => e = .returned (.int .i64 (Kd.pt k)) ∧ Below w.heap.size w w' := by
  have hf := kf1
  go_enter Try.func77, Try.ntmps77
  go_wp2_with (go_at_call 26; refine (kof_any k _).mono ?_; rintro e w1 ⟨rfl, hb1⟩)
  go_ret
  exact ⟨rfl, hb1⟩
theorem kanswers_any (k a : Int) (w : World) :
    Calls Try.prog 54 #[.int .i64 k, .int .i64 a] w fun e w' => e = .returned (.bool (Kd.ans k a)) ∧ Below w.heap.size w w' := by
  have hf2 := kf2
  have ha : Kd.ans k a = (Kd.an k != 0 && (a == Kd.an k || a == 14)) := rfl
  have HA := Lib.hid ha
  generalize Kd.ans k a = r at *
  clear ha
  have hof := kof_any k
  generalize Kd.wd k = x at *
  generalize Kd.pt k = y at *
  have hrq := krequest_any k
  generalize Kd.an k = z at *
  have HOF := Lib.hid hof
  have HRQ := Lib.hid hrq
  clear hof hrq
  go_enter Try.func54, Try.ntmps54
  go_wp2_with fail
  refine (HRQ.out _).mono ?_; rintro e w1 ⟨rfl, hb1⟩
  by_cases h1 : (z != 0) = true
  · go_wp2_with fail
    refine (HOF.out _).mono ?_; rintro e w2 ⟨rfl, hb2⟩
    have hb := hb1.trans (hb2.mono hb1.size)
    by_cases h2 : (a == z) = true
    · go_wp2_with fail
      go_ret
      exact ⟨by rw [HA.out, h1, h2]; rfl, hb⟩
    · have h2' : (a == z) = false := by simpa using h2
      clear h2
      go_wp2_with fail
      go_ret
      exact ⟨by rw [HA.out, h1, h2']; rfl, hb⟩
  · have h1' : (z != 0) = false := by simpa using h1
    clear h1
    go_wp2_with fail
    go_ret
    exact ⟨by rw [HA.out, h1']; rfl, hb1⟩
end Go.Proofs.Ytnihaaifkogpbaa
