/- The walks of chapter 27: what is told of a kind. -/
import Derived.Test.YthpjdplobjdfmaaKind
namespace Go.Proofs.Ythpjdplobjdfmaa
open Go.ChangeShapes Go.WideShapes Go.ChangeAt Go.RowKit
set_option linter.unusedVariables false
theorem i3 : (Try.prog.info? 37).map (·.size) = some 3 := by kernel_rfl
theorem of_any (k : Int) (w : World) :
    Calls Try.prog 18 #[.int .i64 k] w fun e w' => e = .returned (.agg #[.string (Kd.wd k), .int .i64 (Kd.pt k), .int .i64 (Kd.an k)]) ∧ Below w.heap.size w w' := by
  have H3 := Lib.hid i3
  by_cases h : 1 ≤ k ∧ k ≤ 14
  · have hr : Kd.right k = true := decide_eq_true h
    have hi := index_row k h.1 h.2
    generalize Kd.wd k = a at *
    generalize Kd.pt k = b at *
    generalize Kd.an k = c at *
    have hra := right_any k
    rw [hr] at hra
    have HRA := Lib.hid hra
    clear hra hr h
    go_enter Try.func18, Try.ntmps18
    go_wp2_with (first
      | (go_at_call 10; refine (HRA.out _).mono ?_; rintro e w' ⟨rfl, rfl⟩)
      | (go_at_call 19; refine (table_any _).mono ?_; rintro e w1 ⟨rfl, hb1⟩
         have hblk1 := (Blk.new w 37 #[.string ⟨#[]⟩, .int .i64 0, .int .i64 0]).below hb1 (by simp))
      | (refine wpList_put_row rfl 37 (.tmp 2) (.tmp 9) rfl w.heap.size #[.string a, .int .i64 b, .int .i64 c] rfl rfl 37 _ hblk1 H3.out rfl (by simp [Value.oneCell']) ?_; intro w2 hblk hgr))
    have hbel : Below w.heap.size w w2 := (((Below.refl _ _).alloc (Nat.le_refl _) _).trans (hb1.mono (by simp))).grown hgr (by have := hb1.size; simp at this; omega) (by intro k hk; injection hk with hk; omega)
    refine bodyPost_ret (results_cell_row rfl _ _ w.heap.size 37 _ (0, 0) _ rfl hblk Try.underlying37 rfl H3.out) rfl ⟨rfl, hbel⟩
  · have hr : Kd.right k = false := decide_eq_false h
    have hidx : Kd.idx k = 0 := if_neg h
    have e1 : Kd.wd k = ⟨#[]⟩ := by unfold Kd.wd; rw [hidx]; rfl
    have e2 : Kd.pt k = 0 := by unfold Kd.pt; rw [hidx]; rfl
    have e3 : Kd.an k = 0 := by unfold Kd.an; rw [hidx]; rfl
    rw [e1, e2, e3]
    have hra := right_any k
    rw [hr] at hra
    have HRA := Lib.hid hra
    clear hra hr h hidx e1 e2 e3
    go_enter Try.func18, Try.ntmps18
    go_wp2_with (first
      | (go_at_call 10; refine (HRA.out _).mono ?_; rintro e w' ⟨rfl, rfl⟩)
      | (refine wpList_put_row rfl 37 (.tmp 2) (.tmp 6) rfl w.heap.size #[.string ⟨#[]⟩, .int .i64 0, .int .i64 0] rfl rfl 37 _ (Blk.new w 37 _) H3.out rfl (by simp [Value.oneCell']) ?_; intro w2 hblk hgr))
    have hbel : Below w.heap.size w w2 := ((Below.refl _ _).alloc (Nat.le_refl _) _).grown hgr (by simp) (by intro k hk; injection hk with hk; omega)
    refine bodyPost_ret (results_cell_row rfl _ _ w.heap.size 37 _ (0, 0) _ rfl hblk Try.underlying37 rfl H3.out) rfl ⟨rfl, hbel⟩
theorem f0 (a : ByteArray) (b c : Int) (w : World) : (Instr.field 37 (.agg #[.string a, .int .i64 b, .int .i64 c]) 0).run Try.prog w = .ok (.string a) w := rfl
theorem f1 (a : ByteArray) (b c : Int) (w : World) : (Instr.field 37 (.agg #[.string a, .int .i64 b, .int .i64 c]) 1).run Try.prog w = .ok (.int .i64 b) w := rfl
theorem f2 (a : ByteArray) (b c : Int) (w : World) : (Instr.field 37 (.agg #[.string a, .int .i64 b, .int .i64 c]) 2).run Try.prog w = .ok (.int .i64 c) w := rfl
theorem request_any (k : Int) (w : World) :
    Calls Try.prog 9 #[.int .i64 k] w fun e w' => e = .returned (.bool (Kd.an k != 0)) ∧ Below w.heap.size w w' := by
  have hf := f2
  go_enter Try.func9, Try.ntmps9
  go_wp2_with (go_at_call 18; refine (of_any k _).mono ?_; rintro e w1 ⟨rfl, hb1⟩)
  go_ret
  exact ⟨rfl, hb1⟩
theorem parts_any (k : Int) (w : World) :
    Calls Try.prog 13 #[.int .i64 k] w fun e w' => e = .returned (.int .i64 (Kd.pt k)) ∧ Below w.heap.size w w' := by
  have hf := f1
  go_enter Try.func13, Try.ntmps13
  go_wp2_with (go_at_call 18; refine (of_any k _).mono ?_; rintro e w1 ⟨rfl, hb1⟩)
  go_ret
  exact ⟨rfl, hb1⟩
theorem word_any (k : Int) (w : World) :
    Calls Try.prog 15 #[.int .i64 k] w fun e w' => e = .returned (.string (Kd.wd k)) ∧ Below w.heap.size w w' := by
  have hf := f0
  go_enter Try.func15, Try.ntmps15
  go_wp2_with (go_at_call 18; refine (of_any k _).mono ?_; rintro e w1 ⟨rfl, hb1⟩)
  go_ret
  exact ⟨rfl, hb1⟩
theorem answers_any (k a : Int) (w : World) :
    Calls Try.prog 8 #[.int .i64 k, .int .i64 a] w fun e w' => e = .returned (.bool (Kd.ans k a)) ∧ Below w.heap.size w w' := by
  have hf2 := f2
  have ha : Kd.ans k a = (Kd.an k != 0 && (a == Kd.an k || a == 14)) := rfl
  have HA := Lib.hid ha
  generalize Kd.ans k a = r at *
  clear ha
  have hof := of_any k
  generalize Kd.wd k = x at *
  generalize Kd.pt k = y at *
  have hrq := request_any k
  generalize Kd.an k = z at *
  have HOF := Lib.hid hof
  have HRQ := Lib.hid hrq
  clear hof hrq
  go_enter Try.func8, Try.ntmps8
  go_wp2_with fail
  refine (HRQ.out _).mono ?_; rintro e w1 ⟨rfl, hb1⟩
  by_cases h1 : (z != 0) = true
  · go_wp2_with fail
    refine (HOF.out _).mono ?_; rintro e w2 ⟨rfl, hb2⟩
    have hb := hb1.trans (hb2.mono hb1.size)
    by_cases h2 : (a == z) = true
    · go_wp2_with fail
      go_ret
      exact ⟨by rw [HA.out, h1, h2]; rfl, hb⟩
    · have h2' : (a == z) = false := by simpa using h2
      clear h2
      go_wp2_with fail
      go_ret
      exact ⟨by rw [HA.out, h1, h2']; rfl, hb⟩
  · have h1' : (z != 0) = false := by simpa using h1
    clear h1
    go_wp2_with fail
    go_ret
    exact ⟨by rw [HA.out, h1']; rfl, hb1⟩
end Go.Proofs.Ythpjdplobjdfmaa
