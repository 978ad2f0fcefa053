/- The example of chapter 30's laws. -/
import Derived.Test.YtlfieiiegokejaaTkLw
namespace Go.Proofs.Ytlfieiiegokejaa
open Go.ChangeShapes Go.WideShapes Go.ChangeAt Go.RowKit
set_option linter.unusedVariables false
def lvQ : Ms := ⟨1, 1, 5, 0, 0, 0, [], [], [], (0, 0, 0), (0, [])⟩
def lvA : Ms := ⟨9, 1, 5, 0, 0, 4, [], [], [], (0, 0, 0), (0, [])⟩
abbrev lvQV : Array Value := #[.int .i64 1, .int .u64 1, .int .u64 5, .int .u64 0, .int .i64 0, .int .i64 0, .slice none 0 0, .slice none 0 0, .slice none 0 0, .int .u64 0, .int .u64 0, .int .u64 0, .int .u64 0, .slice none 0 0]
abbrev lvAV : Array Value := #[.int .i64 9, .int .u64 1, .int .u64 5, .int .u64 0, .int .i64 0, .int .i64 4, .slice none 0 0, .slice none 0 0, .slice none 0 0, .int .u64 0, .int .u64 0, .int .u64 0, .int .u64 0, .slice none 0 0]
abbrev lvC3 : Array Value := #[.int .i64 1, .int .u64 1, .int .u64 5, .int .u64 0, .int .i64 0, .int .i64 0, .slice none 0 0, .slice none 0 0, .slice none 0 0, .int .u64 0, .int .u64 0, .int .u64 0, .int .u64 0, .slice none 0 0, .int .i64 9, .int .u64 1, .int .u64 5, .int .u64 0, .int .i64 0, .int .i64 4, .slice none 0 0, .slice none 0 0, .slice none 0 0, .int .u64 0, .int .u64 0, .int .u64 0, .int .u64 0, .slice none 0 0, .int .i64 9, .int .u64 1, .int .u64 5, .int .u64 0, .int .i64 0, .int .i64 4, .slice none 0 0, .slice none 0 0, .slice none 0 0, .int .u64 0, .int .u64 0, .int .u64 0, .int .u64 0, .slice none 0 0]
abbrev lvC2 : Array Value := #[.int .i64 1, .int .u64 1, .int .u64 5, .int .u64 0, .int .i64 0, .int .i64 0, .slice none 0 0, .slice none 0 0, .slice none 0 0, .int .u64 0, .int .u64 0, .int .u64 0, .int .u64 0, .slice none 0 0, .int .i64 9, .int .u64 1, .int .u64 5, .int .u64 0, .int .i64 0, .int .i64 4, .slice none 0 0, .slice none 0 0, .slice none 0 0, .int .u64 0, .int .u64 0, .int .u64 0, .int .u64 0, .slice none 0 0]
theorem part_yes {k p : Int} {a b : Prop} (h : Kd.has k p = true) (ha : a) : part k p a b := by unfold part; rw [if_pos h]; exact ha
theorem part_no {k p : Int} {a b : Prop} (h : Kd.has k p = false) (hb : b) : part k p a b := by unfold part; rw [if_neg (by rw [h]; decide)]; exact hb
theorem lv_mq : MOk lvQ := by
  refine ⟨⟨by decide +kernel, part_yes (by decide +kernel) (by show (0 : Nat) < 4611686018427387904; decide), part_no (by decide +kernel) rfl, part_no (by decide +kernel) rfl, part_no (by decide +kernel) rfl, part_no (by decide +kernel) rfl, part_no (by decide +kernel) rfl, part_no (by decide +kernel) ⟨rfl, rfl⟩, .inl rfl⟩, by show 1 ≤ 1; decide, by show 1 < 4611686018427387904; decide⟩
theorem lv_ma : MOk lvA := by
  refine ⟨⟨by decide +kernel, part_no (by decide +kernel) rfl, part_no (by decide +kernel) rfl, part_yes (by decide +kernel) ⟨by decide +kernel, by decide +kernel⟩, part_no (by decide +kernel) rfl, part_no (by decide +kernel) rfl, part_no (by decide +kernel) rfl, part_no (by decide +kernel) ⟨rfl, rfl⟩, .inl rfl⟩, by show 1 ≤ 1; decide, by show 1 < 4611686018427387904; decide⟩
theorem lv_fits : fitsC lvQ lvA = 0 := by
  unfold fitsC
  rw [if_neg (fun h => h ⟨lv_mq, lv_ma⟩), if_neg (by decide +kernel), if_neg (fun h => h rfl), if_neg (fun h => h.2 rfl), if_neg (fun h => absurd h.1 (by decide +kernel))]
theorem lv_good (r : List Ms) : Good (lvQ :: lvA :: r) 2 := by
  refine good_succ (good_succ (good_zero _) ?_) ?_
  · rw [atC_at (m := lvQ) rfl]
    unfold atM
    rw [if_neg (fun h => h lv_mq), if_pos (by decide +kernel), if_neg (fun h => by obtain ⟨k, m, hk, _⟩ := h; omega)]
  · rw [atC_at (m := lvA) rfl]
    unfold atM
    have h1 : askedTo (lvQ :: lvA :: r) lvA.sq 1 = some 0 := by kernel_rfl
    have h2 : answdTo (lvQ :: lvA :: r) lvA.sq 1 = none := by kernel_rfl
    rw [if_neg (fun h => h lv_ma), if_neg (by decide +kernel)]
    unfold ansC
    rw [h1, h2]
    exact lv_fits
theorem lv_res : res [lvQ, lvA, lvA] = (2, 18) := by
  refine res_bad (lv_good _) (by decide) ?_ (by decide)
  rw [atC_at (m := lvA) rfl]
  unfold atM
  have h1 : askedTo [lvQ, lvA, lvA] lvA.sq 2 = some 0 := by kernel_rfl
  have h2 : answdTo [lvQ, lvA, lvA] lvA.sq 2 = some 1 := by kernel_rfl
  rw [if_neg (fun h => h lv_ma), if_neg (by decide +kernel)]
  unfold ansC
  rw [h1, h2]
  rfl
theorem lv_open : opnL [lvQ, lvA] (prsOf [lvQ, lvA] 2 2) = [] := by kernel_rfl
theorem lv_in (w : World) {m : Ms} (h : m = lvQ ∨ m = lvA) : MsIn w (fun _ => False) m hdZ := by
  rcases h with rfl | rfl <;>
  exact ⟨Rp.sl_nil _ _ _ _ _ (by decide), Rp.sl_nil _ _ _ _ _ (by decide), Rp.sl_nil _ _ _ _ _ (by decide), Rp.sl_nil _ _ _ _ _ (by decide), fun k h => h.elim, by decide, by decide, by decide, by decide, by decide, by decide, by decide, by decide, by decide, by decide, by decide, by decide, by decide⟩
set_option maxRecDepth 100000 in
set_option maxHeartbeats 2000000 in
theorem live30_any (w : World) : Calls Try.prog 8 #[] w fun e w' => e = .returned (.bool true) ∧ Below w.heap.size w w' := by
  have HB := Lib.hid (below2 w (.cells lvQV 32) (.cells lvAV 32))
  have KQ := Lib.hid (blk21 w 32 32 lvQV lvAV)
  have KA := Lib.hid (blk22 w 32 32 lvQV lvAV)
  go_enter Try.func8, Try.ntmps8
  go_upto_region 3 with (fail)
  generalize World.alloc (World.alloc w _) _ = w2 at *
  have z0 : w2.cell? ⟨w.heap.size, 0, none⟩ = some (.int .i64 1) := (show Blk w2 (w.heap.size) 32 lvQV from KQ.out).cell 0
  have z1 : w2.cell? ⟨w.heap.size, 1, none⟩ = some (.int .u64 1) := (show Blk w2 (w.heap.size) 32 lvQV from KQ.out).cell 1
  have z2 : w2.cell? ⟨w.heap.size, 2, none⟩ = some (.int .u64 5) := (show Blk w2 (w.heap.size) 32 lvQV from KQ.out).cell 2
  have z3 : w2.cell? ⟨w.heap.size, 3, none⟩ = some (.int .u64 0) := (show Blk w2 (w.heap.size) 32 lvQV from KQ.out).cell 3
  have z4 : w2.cell? ⟨w.heap.size, 4, none⟩ = some (.int .i64 0) := (show Blk w2 (w.heap.size) 32 lvQV from KQ.out).cell 4
  have z5 : w2.cell? ⟨w.heap.size, 5, none⟩ = some (.int .i64 0) := (show Blk w2 (w.heap.size) 32 lvQV from KQ.out).cell 5
  have z6 : w2.cell? ⟨w.heap.size, 6, none⟩ = some (.slice none 0 0) := (show Blk w2 (w.heap.size) 32 lvQV from KQ.out).cell 6
  have z7 : w2.cell? ⟨w.heap.size, 7, none⟩ = some (.slice none 0 0) := (show Blk w2 (w.heap.size) 32 lvQV from KQ.out).cell 7
  have z8 : w2.cell? ⟨w.heap.size, 8, none⟩ = some (.slice none 0 0) := (show Blk w2 (w.heap.size) 32 lvQV from KQ.out).cell 8
  have z9 : w2.cell? ⟨w.heap.size, 9, none⟩ = some (.int .u64 0) := (show Blk w2 (w.heap.size) 32 lvQV from KQ.out).cell 9
  have z10 : w2.cell? ⟨w.heap.size, 10, none⟩ = some (.int .u64 0) := (show Blk w2 (w.heap.size) 32 lvQV from KQ.out).cell 10
  have z11 : w2.cell? ⟨w.heap.size, 11, none⟩ = some (.int .u64 0) := (show Blk w2 (w.heap.size) 32 lvQV from KQ.out).cell 11
  have z12 : w2.cell? ⟨w.heap.size, 12, none⟩ = some (.int .u64 0) := (show Blk w2 (w.heap.size) 32 lvQV from KQ.out).cell 12
  have z13 : w2.cell? ⟨w.heap.size, 13, none⟩ = some (.slice none 0 0) := (show Blk w2 (w.heap.size) 32 lvQV from KQ.out).cell 13
  have y0 : w2.cell? ⟨w.heap.size + 1, 0, none⟩ = some (.int .i64 9) := (show Blk w2 (w.heap.size + 1) 32 lvAV from KA.out).cell 0
  have y1 : w2.cell? ⟨w.heap.size + 1, 1, none⟩ = some (.int .u64 1) := (show Blk w2 (w.heap.size + 1) 32 lvAV from KA.out).cell 1
  have y2 : w2.cell? ⟨w.heap.size + 1, 2, none⟩ = some (.int .u64 5) := (show Blk w2 (w.heap.size + 1) 32 lvAV from KA.out).cell 2
  have y3 : w2.cell? ⟨w.heap.size + 1, 3, none⟩ = some (.int .u64 0) := (show Blk w2 (w.heap.size + 1) 32 lvAV from KA.out).cell 3
  have y4 : w2.cell? ⟨w.heap.size + 1, 4, none⟩ = some (.int .i64 0) := (show Blk w2 (w.heap.size + 1) 32 lvAV from KA.out).cell 4
  have y5 : w2.cell? ⟨w.heap.size + 1, 5, none⟩ = some (.int .i64 4) := (show Blk w2 (w.heap.size + 1) 32 lvAV from KA.out).cell 5
  have y6 : w2.cell? ⟨w.heap.size + 1, 6, none⟩ = some (.slice none 0 0) := (show Blk w2 (w.heap.size + 1) 32 lvAV from KA.out).cell 6
  have y7 : w2.cell? ⟨w.heap.size + 1, 7, none⟩ = some (.slice none 0 0) := (show Blk w2 (w.heap.size + 1) 32 lvAV from KA.out).cell 7
  have y8 : w2.cell? ⟨w.heap.size + 1, 8, none⟩ = some (.slice none 0 0) := (show Blk w2 (w.heap.size + 1) 32 lvAV from KA.out).cell 8
  have y9 : w2.cell? ⟨w.heap.size + 1, 9, none⟩ = some (.int .u64 0) := (show Blk w2 (w.heap.size + 1) 32 lvAV from KA.out).cell 9
  have y10 : w2.cell? ⟨w.heap.size + 1, 10, none⟩ = some (.int .u64 0) := (show Blk w2 (w.heap.size + 1) 32 lvAV from KA.out).cell 10
  have y11 : w2.cell? ⟨w.heap.size + 1, 11, none⟩ = some (.int .u64 0) := (show Blk w2 (w.heap.size + 1) 32 lvAV from KA.out).cell 11
  have y12 : w2.cell? ⟨w.heap.size + 1, 12, none⟩ = some (.int .u64 0) := (show Blk w2 (w.heap.size + 1) 32 lvAV from KA.out).cell 12
  have y13 : w2.cell? ⟨w.heap.size + 1, 13, none⟩ = some (.slice none 0 0) := (show Blk w2 (w.heap.size + 1) 32 lvAV from KA.out).cell 13
  have HC : Hid (Calls Try.prog 12 #[.slice (some ⟨w2.heap.size, 0, none⟩) 3 3] (w2.alloc (.cells lvC3 32)) fun e w' => e = .returned (.tuple #[.int .i64 2, .int .i64 18]) ∧ Below (w2.alloc (.cells lvC3 32)).heap.size (w2.alloc (.cells lvC3 32)) w') := by
    have h := check_any (ms_block (D := fun _ => False) (lp := [(lvQ, hdZ), (lvA, hdZ), (lvA, hdZ)]) (blk11 w2 32 lvC3) rfl (fun p hp => by
      simp only [List.mem_cons, List.not_mem_nil, or_false] at hp
      rcases hp with rfl | rfl | rfl
      · exact lv_in _ (.inl rfl)
      · exact lv_in _ (.inr rfl)
      · exact lv_in _ (.inr rfl)) (by decide)) (fun k hk => by
      rcases hk with hk | rfl
      · exact hk.elim
      · simp) (by decide)
    have e : List.map (·.1) [(lvQ, hdZ), (lvA, hdZ), (lvA, hdZ)] = [lvQ, lvA, lvA] := rfl
    rw [e, lv_res] at h
    exact h
  have HB1 := Lib.hid (stepB HB.out (below1 w2 (.cells lvC3 32)))
  go_wp2_with fail
  refine HC.out.mono ?_; rintro e w3 ⟨rfl, hb3⟩
  have HB3 := Lib.hid (stepB HB1.out hb3)
  have hb23 := stepB (below1 w2 (.cells lvC3 32)) hb3
  have KQ3 := Lib.hid (keepB (show Blk w2 w.heap.size 32 lvQV from KQ.out) hb23)
  have KA3 := Lib.hid (keepB (show Blk w2 (w.heap.size + 1) 32 lvAV from KA.out) hb23)
  clear hb23 hb3 z0 z1 z2 z3 z4 z5 z6 z7 z8 z9 z10 z11 z12 z13 y0 y1 y2 y3 y4 y5 y6 y7 y8 y9 y10 y11 y12 y13
  have z0 : w3.cell? ⟨w.heap.size, 0, none⟩ = some (.int .i64 1) := (show Blk w3 (w.heap.size) 32 lvQV from KQ3.out).cell 0
  have z1 : w3.cell? ⟨w.heap.size, 1, none⟩ = some (.int .u64 1) := (show Blk w3 (w.heap.size) 32 lvQV from KQ3.out).cell 1
  have z2 : w3.cell? ⟨w.heap.size, 2, none⟩ = some (.int .u64 5) := (show Blk w3 (w.heap.size) 32 lvQV from KQ3.out).cell 2
  have z3 : w3.cell? ⟨w.heap.size, 3, none⟩ = some (.int .u64 0) := (show Blk w3 (w.heap.size) 32 lvQV from KQ3.out).cell 3
  have z4 : w3.cell? ⟨w.heap.size, 4, none⟩ = some (.int .i64 0) := (show Blk w3 (w.heap.size) 32 lvQV from KQ3.out).cell 4
  have z5 : w3.cell? ⟨w.heap.size, 5, none⟩ = some (.int .i64 0) := (show Blk w3 (w.heap.size) 32 lvQV from KQ3.out).cell 5
  have z6 : w3.cell? ⟨w.heap.size, 6, none⟩ = some (.slice none 0 0) := (show Blk w3 (w.heap.size) 32 lvQV from KQ3.out).cell 6
  have z7 : w3.cell? ⟨w.heap.size, 7, none⟩ = some (.slice none 0 0) := (show Blk w3 (w.heap.size) 32 lvQV from KQ3.out).cell 7
  have z8 : w3.cell? ⟨w.heap.size, 8, none⟩ = some (.slice none 0 0) := (show Blk w3 (w.heap.size) 32 lvQV from KQ3.out).cell 8
  have z9 : w3.cell? ⟨w.heap.size, 9, none⟩ = some (.int .u64 0) := (show Blk w3 (w.heap.size) 32 lvQV from KQ3.out).cell 9
  have z10 : w3.cell? ⟨w.heap.size, 10, none⟩ = some (.int .u64 0) := (show Blk w3 (w.heap.size) 32 lvQV from KQ3.out).cell 10
  have z11 : w3.cell? ⟨w.heap.size, 11, none⟩ = some (.int .u64 0) := (show Blk w3 (w.heap.size) 32 lvQV from KQ3.out).cell 11
  have z12 : w3.cell? ⟨w.heap.size, 12, none⟩ = some (.int .u64 0) := (show Blk w3 (w.heap.size) 32 lvQV from KQ3.out).cell 12
  have z13 : w3.cell? ⟨w.heap.size, 13, none⟩ = some (.slice none 0 0) := (show Blk w3 (w.heap.size) 32 lvQV from KQ3.out).cell 13
  have y0 : w3.cell? ⟨w.heap.size + 1, 0, none⟩ = some (.int .i64 9) := (show Blk w3 (w.heap.size + 1) 32 lvAV from KA3.out).cell 0
  have y1 : w3.cell? ⟨w.heap.size + 1, 1, none⟩ = some (.int .u64 1) := (show Blk w3 (w.heap.size + 1) 32 lvAV from KA3.out).cell 1
  have y2 : w3.cell? ⟨w.heap.size + 1, 2, none⟩ = some (.int .u64 5) := (show Blk w3 (w.heap.size + 1) 32 lvAV from KA3.out).cell 2
  have y3 : w3.cell? ⟨w.heap.size + 1, 3, none⟩ = some (.int .u64 0) := (show Blk w3 (w.heap.size + 1) 32 lvAV from KA3.out).cell 3
  have y4 : w3.cell? ⟨w.heap.size + 1, 4, none⟩ = some (.int .i64 0) := (show Blk w3 (w.heap.size + 1) 32 lvAV from KA3.out).cell 4
  have y5 : w3.cell? ⟨w.heap.size + 1, 5, none⟩ = some (.int .i64 4) := (show Blk w3 (w.heap.size + 1) 32 lvAV from KA3.out).cell 5
  have y6 : w3.cell? ⟨w.heap.size + 1, 6, none⟩ = some (.slice none 0 0) := (show Blk w3 (w.heap.size + 1) 32 lvAV from KA3.out).cell 6
  have y7 : w3.cell? ⟨w.heap.size + 1, 7, none⟩ = some (.slice none 0 0) := (show Blk w3 (w.heap.size + 1) 32 lvAV from KA3.out).cell 7
  have y8 : w3.cell? ⟨w.heap.size + 1, 8, none⟩ = some (.slice none 0 0) := (show Blk w3 (w.heap.size + 1) 32 lvAV from KA3.out).cell 8
  have y9 : w3.cell? ⟨w.heap.size + 1, 9, none⟩ = some (.int .u64 0) := (show Blk w3 (w.heap.size + 1) 32 lvAV from KA3.out).cell 9
  have y10 : w3.cell? ⟨w.heap.size + 1, 10, none⟩ = some (.int .u64 0) := (show Blk w3 (w.heap.size + 1) 32 lvAV from KA3.out).cell 10
  have y11 : w3.cell? ⟨w.heap.size + 1, 11, none⟩ = some (.int .u64 0) := (show Blk w3 (w.heap.size + 1) 32 lvAV from KA3.out).cell 11
  have y12 : w3.cell? ⟨w.heap.size + 1, 12, none⟩ = some (.int .u64 0) := (show Blk w3 (w.heap.size + 1) 32 lvAV from KA3.out).cell 12
  have y13 : w3.cell? ⟨w.heap.size + 1, 13, none⟩ = some (.slice none 0 0) := (show Blk w3 (w.heap.size + 1) 32 lvAV from KA3.out).cell 13
  have HC2 : Hid (Calls Try.prog 21 #[.slice (some ⟨w3.heap.size, 0, none⟩) 2 2] (w3.alloc (.cells lvC2 32)) fun e w' => e = .returned (.bool true) ∧ Below (w3.alloc (.cells lvC2 32)).heap.size (w3.alloc (.cells lvC2 32)) w') := by
    have h := quiet_any (ms_block (D := fun _ => False) (lp := [(lvQ, hdZ), (lvA, hdZ)]) (blk11 w3 32 lvC2) rfl (fun p hp => by
      simp only [List.mem_cons, List.not_mem_nil, or_false] at hp
      rcases hp with rfl | rfl
      · exact lv_in _ (.inl rfl)
      · exact lv_in _ (.inr rfl)) (by decide)) (fun k hk => by
      rcases hk with hk | rfl
      · exact hk.elim
      · simp) (by decide)
    refine h.mono fun e w' hq => ?_
    obtain ⟨hb, ⟨q, rfl, h0, hg, hi⟩ | ⟨rfl, h0⟩⟩ := hq
    · exact ⟨by rw [hi.2 lv_open], hb⟩
    · exact absurd (by have h1 := res_good (lv_good []); show (res [lvQ, lvA]).2 = 0; rw [h1]) h0
  have HB4 := Lib.hid (stepB HB3.out (below1 w3 (.cells lvC2 32)))
  go_wp2_with fail
  refine HC2.out.mono ?_; rintro e w4 ⟨rfl, hb4⟩
  have HB5 := Lib.hid (stepB HB4.out hb4)
  clear hb4 z0 z1 z2 z3 z4 z5 z6 z7 z8 z9 z10 z11 z12 z13 y0 y1 y2 y3 y4 y5 y6 y7 y8 y9 y10 y11 y12 y13
  go_wp2_with fail
  go_ret
  exact ⟨rfl, HB5.out⟩
end Go.Proofs.Ytlfieiiegokejaa
