/- The walk of the reference's table. -/
import Derived.Test.YtlfieiiegokejaaTkK2
namespace Go.Proofs.Ytlfieiiegokejaa
open Go.ChangeShapes Go.WideShapes Go.ChangeAt Go.RowKit
set_option linter.unusedVariables false

set_option maxRecDepth 100000 in
theorem kil : (Try.prog.info? 61).map (·.size) = some 3 := by kernel_rfl
def kt42 : Array Value := #[.string ⟨#[114, 101, 97, 100]⟩, .int .i64 1, .int .i64 9, .string ⟨#[119, 114, 105, 116, 101]⟩, .int .i64 33, .int .i64 10, .string ⟨#[115, 101, 97, 108]⟩, .int .i64 0, .int .i64 11, .string ⟨#[116, 114, 105, 109]⟩, .int .i64 1, .int .i64 10, .string ⟨#[102, 105, 108, 108]⟩, .int .i64 1, .int .i64 10, .string ⟨#[116, 97, 107, 101]⟩, .int .i64 10, .int .i64 12, .string ⟨#[103, 101, 116]⟩, .int .i64 0, .int .i64 13, .string ⟨#[112, 117, 116]⟩, .int .i64 128, .int .i64 10, .string ⟨#[118, 97, 108, 117, 101]⟩, .int .i64 36, .int .i64 0, .string ⟨#[100, 111, 110, 101]⟩, .int .i64 0, .int .i64 0, .string ⟨#[115, 101, 97, 108, 101, 100]⟩, .int .i64 64, .int .i64 0, .string ⟨#[116, 97, 107, 101, 110]⟩, .int .i64 17, .int .i64 0, .string ⟨#[112, 114, 111, 106]⟩, .int .i64 128, .int .i64 0, .string ⟨#[102, 97, 105, 108, 101, 100]⟩, .int .i64 4, .int .i64 0]
set_option maxRecDepth 100000 in
theorem kt42_at (k : Int) (h0 : 1 ≤ k) (h1 : k ≤ 14) : kt42[(k.toNat - 1) * 3]? = some (.string (Kd.wd k)) ∧ kt42[(k.toNat - 1) * 3 + 1]? = some (.int .i64 (Kd.pt k)) ∧ kt42[(k.toNat - 1) * 3 + 2]? = some (.int .i64 (Kd.an k)) := by
  have : k = 1 ∨ k = 2 ∨ k = 3 ∨ k = 4 ∨ k = 5 ∨ k = 6 ∨ k = 7 ∨ k = 8 ∨ k = 9 ∨ k = 10 ∨ k = 11 ∨ k = 12 ∨ k = 13 ∨ k = 14 := by omega
  rcases this with rfl | rfl | rfl | rfl | rfl | rfl | rfl | rfl | rfl | rfl | rfl | rfl | rfl | rfl <;> exact ⟨rfl, rfl, rfl⟩
set_option maxHeartbeats 4000000 in
set_option maxRecDepth 100000 in
theorem kref_of_out (k : Int) (w : World) (hk : k < 1 ∨ 14 < k) : Calls Try.prog 29 #[.int .i64 k] w fun e w' => e = .returned (.agg #[.string (Kd.wd k), .int .i64 (Kd.pt k), .int .i64 (Kd.an k)]) ∧ Below w.heap.size w w' := by
  have H := Lib.hid kil
  have hidx : Kd.idx k = 0 := if_neg (by omega)
  have e1 : Kd.wd k = ⟨#[]⟩ := by unfold Kd.wd; rw [hidx]; rfl
  have e2 : Kd.pt k = 0 := by unfold Kd.pt; rw [hidx]; rfl
  have e3 : Kd.an k = 0 := by unfold Kd.an; rw [hidx]; rfl
  rw [e1, e2, e3]
  clear hidx e1 e2 e3
  rcases hk with hk | hk
  all_goals
    go_enter Try.func29, Try.ntmps29
    go_wp2_with (refine wpList_put_row rfl 61 (.tmp 2) (.tmp 27) rfl w.heap.size #[.string ⟨#[]⟩, .int .i64 0, .int .i64 0] rfl rfl 61 _ ((Blk.new w 61 _).alloc _) H.out rfl (by simp [Value.oneCell']) ?_; intro w2 hblk hgr)
    have hbel : Below w.heap.size w w2 := (((Below.refl _ _).alloc (Nat.le_refl _) _).alloc (by simp) _).grown hgr (by simp; omega) (by intro k hk; injection hk with hk; omega)
    refine bodyPost_ret (results_cell_row rfl _ _ w.heap.size 61 _ (0, 0) _ rfl hblk Try.underlying61 rfl H.out) rfl ⟨rfl, hbel⟩
set_option maxHeartbeats 4000000 in
set_option maxRecDepth 100000 in
theorem kref_of_any (k : Int) (w : World) : Calls Try.prog 29 #[.int .i64 k] w fun e w' => e = .returned (.agg #[.string (Kd.wd k), .int .i64 (Kd.pt k), .int .i64 (Kd.an k)]) ∧ Below w.heap.size w w' := by
  have H := Lib.hid kil
  by_cases h1 : 1 ≤ k
  · by_cases h2 : k ≤ 14
    · have ht := kt42_at k h1 h2
      have hd1 : decide (k < 1) = false := by simp; omega
      have hd2 : decide (14 < k) = false := by simp; omega
      generalize Kd.wd k = a at *
      generalize Kd.pt k = b at *
      generalize Kd.an k = c at *
      have HT := Lib.hid ht
      clear ht
      go_enter Try.func29, Try.ntmps29
      go_wp2_with (first
        | (refine wpList_load_at rfl 61 (.tmp 31) rfl _ rfl #[.string a, .int .i64 b, .int .i64 c] _ ?_ Try.underlying61 rfl H.out ?_)
        | (refine wpList_put_row rfl 61 (.tmp 2) (.tmp 32) rfl w.heap.size #[.string a, .int .i64 b, .int .i64 c] rfl rfl 61 _ ((Blk.new w 61 _).alloc _) H.out rfl (by simp [Value.oneCell']) ?_; intro w2 hblk hgr))
      · intro j v hj
        rw [add_plain]
        refine (cell_of_row _ (w.heap.size + 1) _ kt42 61 (0, 0) (heap_alloc2_new _ _ _)).trans ?_
        match j, hj with
        | 0, hj => cases hj; exact HT.out.1
        | 1, hj => cases hj; exact HT.out.2.1
        | 2, hj => cases hj; exact HT.out.2.2
      · have hbel : Below w.heap.size w w2 := (((Below.refl _ _).alloc (Nat.le_refl _) _).alloc (by simp) _).grown hgr (by simp; omega) (by intro k hk; injection hk with hk; omega)
        refine bodyPost_ret (results_cell_row rfl _ _ w.heap.size 61 _ (0, 0) _ rfl hblk Try.underlying61 rfl H.out) rfl ⟨rfl, hbel⟩
    · exact kref_of_out k w (.inr (by omega))
  · exact kref_of_out k w (.inl (by omega))
end Go.Proofs.Ytlfieiiegokejaa
