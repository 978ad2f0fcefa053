/-
  'tholepinlaw30.TalkTakes' returns true for every input, and each argument reads behind the call as it read before. No condition.
-/
import Derived.Test.YtnihaaifkogpbaaTuA
import Derived.Test.YtnihaaifkogpbaaTuN
import Derived.Test.YtnihaaifkogpbaaTuS
import Derived.Test.YtnihaaifkogpbaaOpenF
import Derived.Test.YtnihaaifkogpbaaRows
import Derived.Test.YtnihaaifkogpbaaQTT2
/- The example of chapter 30's laws. -/
namespace Go.Proofs.Ytnihaaifkogpbaa
open Go.ChangeShapes Go.WideShapes Go.ChangeAt Go.RowKit
set_option linter.unusedVariables false
def lvQ : Ms := ⟨1, 1, 5, 0, 0, 0, [], [], [], (0, 0, 0), (0, [])⟩
def lvA : Ms := ⟨9, 1, 5, 0, 0, 4, [], [], [], (0, 0, 0), (0, [])⟩
abbrev lvQV : Array Value := #[.int .i64 1, .int .u64 1, .int .u64 5, .int .u64 0, .int .i64 0, .int .i64 0, .slice none 0 0, .slice none 0 0, .slice none 0 0, .int .u64 0, .int .u64 0, .int .u64 0, .int .u64 0, .slice none 0 0]
abbrev lvAV : Array Value := #[.int .i64 9, .int .u64 1, .int .u64 5, .int .u64 0, .int .i64 0, .int .i64 4, .slice none 0 0, .slice none 0 0, .slice none 0 0, .int .u64 0, .int .u64 0, .int .u64 0, .int .u64 0, .slice none 0 0]
abbrev lvC3 : Array Value := #[.int .i64 1, .int .u64 1, .int .u64 5, .int .u64 0, .int .i64 0, .int .i64 0, .slice none 0 0, .slice none 0 0, .slice none 0 0, .int .u64 0, .int .u64 0, .int .u64 0, .int .u64 0, .slice none 0 0, .int .i64 9, .int .u64 1, .int .u64 5, .int .u64 0, .int .i64 0, .int .i64 4, .slice none 0 0, .slice none 0 0, .slice none 0 0, .int .u64 0, .int .u64 0, .int .u64 0, .int .u64 0, .slice none 0 0, .int .i64 9, .int .u64 1, .int .u64 5, .int .u64 0, .int .i64 0, .int .i64 4, .slice none 0 0, .slice none 0 0, .slice none 0 0, .int .u64 0, .int .u64 0, .int .u64 0, .int .u64 0, .slice none 0 0]
abbrev lvC2 : Array Value := #[.int .i64 1, .int .u64 1, .int .u64 5, .int .u64 0, .int .i64 0, .int .i64 0, .slice none 0 0, .slice none 0 0, .slice none 0 0, .int .u64 0, .int .u64 0, .int .u64 0, .int .u64 0, .slice none 0 0, .int .i64 9, .int .u64 1, .int .u64 5, .int .u64 0, .int .i64 0, .int .i64 4, .slice none 0 0, .slice none 0 0, .slice none 0 0, .int .u64 0, .int .u64 0, .int .u64 0, .int .u64 0, .slice none 0 0]
theorem part_yes {k p : Int} {a b : Prop} (h : Kd.has k p = true) (ha : a) : part k p a b := by unfold part; rw [if_pos h]; exact ha
theorem part_no {k p : Int} {a b : Prop} (h : Kd.has k p = false) (hb : b) : part k p a b := by unfold part; rw [if_neg (by rw [h]; decide)]; exact hb
theorem lv_mq : MOk lvQ := by
  refine ⟨⟨by decide +kernel, part_yes (by decide +kernel) (by show (0 : Nat) < 4611686018427387904; decide), part_no (by decide +kernel) rfl, part_no (by decide +kernel) rfl, part_no (by decide +kernel) rfl, part_no (by decide +kernel) rfl, part_no (by decide +kernel) rfl, part_no (by decide +kernel) ⟨rfl, rfl⟩, .inl rfl⟩, by show 1 ≤ 1; decide, by show 1 < 4611686018427387904; decide⟩
theorem lv_ma : MOk lvA := by
  refine ⟨⟨by decide +kernel, part_no (by decide +kernel) rfl, part_no (by decide +kernel) rfl, part_yes (by decide +kernel) ⟨by decide +kernel, by decide +kernel⟩, part_no (by decide +kernel) rfl, part_no (by decide +kernel) rfl, part_no (by decide +kernel) rfl, part_no (by decide +kernel) ⟨rfl, rfl⟩, .inl rfl⟩, by show 1 ≤ 1; decide, by show 1 < 4611686018427387904; decide⟩
theorem lv_fits : fitsC lvQ lvA = 0 := by
  unfold fitsC
  rw [if_neg (fun h => h ⟨lv_mq, lv_ma⟩), if_neg (by decide +kernel), if_neg (fun h => h rfl), if_neg (fun h => h.2 rfl), if_neg (fun h => absurd h.1 (by decide +kernel))]
theorem lv_good (r : List Ms) : Good (lvQ :: lvA :: r) 2 := by
  refine good_succ (good_succ (good_zero _) ?_) ?_
  · rw [atC_at (m := lvQ) rfl]
    unfold atM
    rw [if_neg (fun h => h lv_mq), if_pos (by decide +kernel), if_neg (fun h => by obtain ⟨k, m, hk, _⟩ := h; omega)]
  · rw [atC_at (m := lvA) rfl]
    unfold atM
    have h1 : askedTo (lvQ :: lvA :: r) lvA.sq 1 = some 0 := by kernel_rfl
    have h2 : answdTo (lvQ :: lvA :: r) lvA.sq 1 = none := by kernel_rfl
    rw [if_neg (fun h => h lv_ma), if_neg (by decide +kernel)]
    unfold ansC
    rw [h1, h2]
    exact lv_fits
theorem lv_res : res [lvQ, lvA, lvA] = (2, 18) := by
  refine res_bad (lv_good _) (by decide) ?_ (by decide)
  rw [atC_at (m := lvA) rfl]
  unfold atM
  have h1 : askedTo [lvQ, lvA, lvA] lvA.sq 2 = some 0 := by kernel_rfl
  have h2 : answdTo [lvQ, lvA, lvA] lvA.sq 2 = some 1 := by kernel_rfl
  rw [if_neg (fun h => h lv_ma), if_neg (by decide +kernel)]
  unfold ansC
  rw [h1, h2]
  rfl
theorem lv_open : opnL [lvQ, lvA] (prsOf [lvQ, lvA] 2 2) = [] := by kernel_rfl
theorem lv_in (w : World) {m : Ms} (h : m = lvQ ∨ m = lvA) : MsIn w (fun _ => False) m hdZ := by
  rcases h with rfl | rfl <;>
  exact ⟨Rp.sl_nil _ _ _ _ _ (by decide), Rp.sl_nil _ _ _ _ _ (by decide), Rp.sl_nil _ _ _ _ _ (by decide), Rp.sl_nil _ _ _ _ _ (by decide), fun k h => h.elim, by decide, by decide, by decide, by decide, by decide, by decide, by decide, by decide, by decide, by decide, by decide, by decide, by decide⟩
set_option maxRecDepth 100000 in
set_option maxHeartbeats 2000000 in
theorem live30_any (w : World) : Calls Try.prog 5 #[] w fun e w' => e = .returned (.bool true) ∧ Below w.heap.size w w' := by
  have HB := Lib.hid (below2 w (.cells lvQV 40) (.cells lvAV 40))
  have KQ := Lib.hid (blk21 w 40 40 lvQV lvAV)
  have KA := Lib.hid (blk22 w 40 40 lvQV lvAV)
  go_enter Try.func5, Try.ntmps5
  go_upto_region 3 with (fail)
  generalize World.alloc (World.alloc w _) _ = w2 at *
  have z0 : w2.cell? ⟨w.heap.size, 0, none⟩ = some (.int .i64 1) := (show Blk w2 (w.heap.size) 40 lvQV from KQ.out).cell 0
  have z1 : w2.cell? ⟨w.heap.size, 1, none⟩ = some (.int .u64 1) := (show Blk w2 (w.heap.size) 40 lvQV from KQ.out).cell 1
  have z2 : w2.cell? ⟨w.heap.size, 2, none⟩ = some (.int .u64 5) := (show Blk w2 (w.heap.size) 40 lvQV from KQ.out).cell 2
  have z3 : w2.cell? ⟨w.heap.size, 3, none⟩ = some (.int .u64 0) := (show Blk w2 (w.heap.size) 40 lvQV from KQ.out).cell 3
  have z4 : w2.cell? ⟨w.heap.size, 4, none⟩ = some (.int .i64 0) := (show Blk w2 (w.heap.size) 40 lvQV from KQ.out).cell 4
  have z5 : w2.cell? ⟨w.heap.size, 5, none⟩ = some (.int .i64 0) := (show Blk w2 (w.heap.size) 40 lvQV from KQ.out).cell 5
  have z6 : w2.cell? ⟨w.heap.size, 6, none⟩ = some (.slice none 0 0) := (show Blk w2 (w.heap.size) 40 lvQV from KQ.out).cell 6
  have z7 : w2.cell? ⟨w.heap.size, 7, none⟩ = some (.slice none 0 0) := (show Blk w2 (w.heap.size) 40 lvQV from KQ.out).cell 7
  have z8 : w2.cell? ⟨w.heap.size, 8, none⟩ = some (.slice none 0 0) := (show Blk w2 (w.heap.size) 40 lvQV from KQ.out).cell 8
  have z9 : w2.cell? ⟨w.heap.size, 9, none⟩ = some (.int .u64 0) := (show Blk w2 (w.heap.size) 40 lvQV from KQ.out).cell 9
  have z10 : w2.cell? ⟨w.heap.size, 10, none⟩ = some (.int .u64 0) := (show Blk w2 (w.heap.size) 40 lvQV from KQ.out).cell 10
  have z11 : w2.cell? ⟨w.heap.size, 11, none⟩ = some (.int .u64 0) := (show Blk w2 (w.heap.size) 40 lvQV from KQ.out).cell 11
  have z12 : w2.cell? ⟨w.heap.size, 12, none⟩ = some (.int .u64 0) := (show Blk w2 (w.heap.size) 40 lvQV from KQ.out).cell 12
  have z13 : w2.cell? ⟨w.heap.size, 13, none⟩ = some (.slice none 0 0) := (show Blk w2 (w.heap.size) 40 lvQV from KQ.out).cell 13
  have y0 : w2.cell? ⟨w.heap.size + 1, 0, none⟩ = some (.int .i64 9) := (show Blk w2 (w.heap.size + 1) 40 lvAV from KA.out).cell 0
  have y1 : w2.cell? ⟨w.heap.size + 1, 1, none⟩ = some (.int .u64 1) := (show Blk w2 (w.heap.size + 1) 40 lvAV from KA.out).cell 1
  have y2 : w2.cell? ⟨w.heap.size + 1, 2, none⟩ = some (.int .u64 5) := (show Blk w2 (w.heap.size + 1) 40 lvAV from KA.out).cell 2
  have y3 : w2.cell? ⟨w.heap.size + 1, 3, none⟩ = some (.int .u64 0) := (show Blk w2 (w.heap.size + 1) 40 lvAV from KA.out).cell 3
  have y4 : w2.cell? ⟨w.heap.size + 1, 4, none⟩ = some (.int .i64 0) := (show Blk w2 (w.heap.size + 1) 40 lvAV from KA.out).cell 4
  have y5 : w2.cell? ⟨w.heap.size + 1, 5, none⟩ = some (.int .i64 4) := (show Blk w2 (w.heap.size + 1) 40 lvAV from KA.out).cell 5
  have y6 : w2.cell? ⟨w.heap.size + 1, 6, none⟩ = some (.slice none 0 0) := (show Blk w2 (w.heap.size + 1) 40 lvAV from KA.out).cell 6
  have y7 : w2.cell? ⟨w.heap.size + 1, 7, none⟩ = some (.slice none 0 0) := (show Blk w2 (w.heap.size + 1) 40 lvAV from KA.out).cell 7
  have y8 : w2.cell? ⟨w.heap.size + 1, 8, none⟩ = some (.slice none 0 0) := (show Blk w2 (w.heap.size + 1) 40 lvAV from KA.out).cell 8
  have y9 : w2.cell? ⟨w.heap.size + 1, 9, none⟩ = some (.int .u64 0) := (show Blk w2 (w.heap.size + 1) 40 lvAV from KA.out).cell 9
  have y10 : w2.cell? ⟨w.heap.size + 1, 10, none⟩ = some (.int .u64 0) := (show Blk w2 (w.heap.size + 1) 40 lvAV from KA.out).cell 10
  have y11 : w2.cell? ⟨w.heap.size + 1, 11, none⟩ = some (.int .u64 0) := (show Blk w2 (w.heap.size + 1) 40 lvAV from KA.out).cell 11
  have y12 : w2.cell? ⟨w.heap.size + 1, 12, none⟩ = some (.int .u64 0) := (show Blk w2 (w.heap.size + 1) 40 lvAV from KA.out).cell 12
  have y13 : w2.cell? ⟨w.heap.size + 1, 13, none⟩ = some (.slice none 0 0) := (show Blk w2 (w.heap.size + 1) 40 lvAV from KA.out).cell 13
  have HC : Hid (Calls Try.prog 13 #[.slice (some ⟨w2.heap.size, 0, none⟩) 3 3] (w2.alloc (.cells lvC3 40)) fun e w' => e = .returned (.tuple #[.int .i64 2, .int .i64 18]) ∧ Below (w2.alloc (.cells lvC3 40)).heap.size (w2.alloc (.cells lvC3 40)) w') := by
    have h := check_any (ms_block (D := fun _ => False) (lp := [(lvQ, hdZ), (lvA, hdZ), (lvA, hdZ)]) (blk11 w2 40 lvC3) rfl (fun p hp => by
      simp only [List.mem_cons, List.not_mem_nil, or_false] at hp
      rcases hp with rfl | rfl | rfl
      · exact lv_in _ (.inl rfl)
      · exact lv_in _ (.inr rfl)
      · exact lv_in _ (.inr rfl)) (by decide)) (fun k hk => by
      rcases hk with hk | rfl
      · exact hk.elim
      · simp) (by decide)
    have e : List.map (·.1) [(lvQ, hdZ), (lvA, hdZ), (lvA, hdZ)] = [lvQ, lvA, lvA] := rfl
    rw [e, lv_res] at h
    exact h
  have HB1 := Lib.hid (stepB HB.out (below1 w2 (.cells lvC3 40)))
  go_wp2_with fail
  refine HC.out.mono ?_; rintro e w3 ⟨rfl, hb3⟩
  have HB3 := Lib.hid (stepB HB1.out hb3)
  have hb23 := stepB (below1 w2 (.cells lvC3 40)) hb3
  have KQ3 := Lib.hid (keepB (show Blk w2 w.heap.size 40 lvQV from KQ.out) hb23)
  have KA3 := Lib.hid (keepB (show Blk w2 (w.heap.size + 1) 40 lvAV from KA.out) hb23)
  clear hb23 hb3 z0 z1 z2 z3 z4 z5 z6 z7 z8 z9 z10 z11 z12 z13 y0 y1 y2 y3 y4 y5 y6 y7 y8 y9 y10 y11 y12 y13
  have z0 : w3.cell? ⟨w.heap.size, 0, none⟩ = some (.int .i64 1) := (show Blk w3 (w.heap.size) 40 lvQV from KQ3.out).cell 0
  have z1 : w3.cell? ⟨w.heap.size, 1, none⟩ = some (.int .u64 1) := (show Blk w3 (w.heap.size) 40 lvQV from KQ3.out).cell 1
  have z2 : w3.cell? ⟨w.heap.size, 2, none⟩ = some (.int .u64 5) := (show Blk w3 (w.heap.size) 40 lvQV from KQ3.out).cell 2
  have z3 : w3.cell? ⟨w.heap.size, 3, none⟩ = some (.int .u64 0) := (show Blk w3 (w.heap.size) 40 lvQV from KQ3.out).cell 3
  have z4 : w3.cell? ⟨w.heap.size, 4, none⟩ = some (.int .i64 0) := (show Blk w3 (w.heap.size) 40 lvQV from KQ3.out).cell 4
  have z5 : w3.cell? ⟨w.heap.size, 5, none⟩ = some (.int .i64 0) := (show Blk w3 (w.heap.size) 40 lvQV from KQ3.out).cell 5
  have z6 : w3.cell? ⟨w.heap.size, 6, none⟩ = some (.slice none 0 0) := (show Blk w3 (w.heap.size) 40 lvQV from KQ3.out).cell 6
  have z7 : w3.cell? ⟨w.heap.size, 7, none⟩ = some (.slice none 0 0) := (show Blk w3 (w.heap.size) 40 lvQV from KQ3.out).cell 7
  have z8 : w3.cell? ⟨w.heap.size, 8, none⟩ = some (.slice none 0 0) := (show Blk w3 (w.heap.size) 40 lvQV from KQ3.out).cell 8
  have z9 : w3.cell? ⟨w.heap.size, 9, none⟩ = some (.int .u64 0) := (show Blk w3 (w.heap.size) 40 lvQV from KQ3.out).cell 9
  have z10 : w3.cell? ⟨w.heap.size, 10, none⟩ = some (.int .u64 0) := (show Blk w3 (w.heap.size) 40 lvQV from KQ3.out).cell 10
  have z11 : w3.cell? ⟨w.heap.size, 11, none⟩ = some (.int .u64 0) := (show Blk w3 (w.heap.size) 40 lvQV from KQ3.out).cell 11
  have z12 : w3.cell? ⟨w.heap.size, 12, none⟩ = some (.int .u64 0) := (show Blk w3 (w.heap.size) 40 lvQV from KQ3.out).cell 12
  have z13 : w3.cell? ⟨w.heap.size, 13, none⟩ = some (.slice none 0 0) := (show Blk w3 (w.heap.size) 40 lvQV from KQ3.out).cell 13
  have y0 : w3.cell? ⟨w.heap.size + 1, 0, none⟩ = some (.int .i64 9) := (show Blk w3 (w.heap.size + 1) 40 lvAV from KA3.out).cell 0
  have y1 : w3.cell? ⟨w.heap.size + 1, 1, none⟩ = some (.int .u64 1) := (show Blk w3 (w.heap.size + 1) 40 lvAV from KA3.out).cell 1
  have y2 : w3.cell? ⟨w.heap.size + 1, 2, none⟩ = some (.int .u64 5) := (show Blk w3 (w.heap.size + 1) 40 lvAV from KA3.out).cell 2
  have y3 : w3.cell? ⟨w.heap.size + 1, 3, none⟩ = some (.int .u64 0) := (show Blk w3 (w.heap.size + 1) 40 lvAV from KA3.out).cell 3
  have y4 : w3.cell? ⟨w.heap.size + 1, 4, none⟩ = some (.int .i64 0) := (show Blk w3 (w.heap.size + 1) 40 lvAV from KA3.out).cell 4
  have y5 : w3.cell? ⟨w.heap.size + 1, 5, none⟩ = some (.int .i64 4) := (show Blk w3 (w.heap.size + 1) 40 lvAV from KA3.out).cell 5
  have y6 : w3.cell? ⟨w.heap.size + 1, 6, none⟩ = some (.slice none 0 0) := (show Blk w3 (w.heap.size + 1) 40 lvAV from KA3.out).cell 6
  have y7 : w3.cell? ⟨w.heap.size + 1, 7, none⟩ = some (.slice none 0 0) := (show Blk w3 (w.heap.size + 1) 40 lvAV from KA3.out).cell 7
  have y8 : w3.cell? ⟨w.heap.size + 1, 8, none⟩ = some (.slice none 0 0) := (show Blk w3 (w.heap.size + 1) 40 lvAV from KA3.out).cell 8
  have y9 : w3.cell? ⟨w.heap.size + 1, 9, none⟩ = some (.int .u64 0) := (show Blk w3 (w.heap.size + 1) 40 lvAV from KA3.out).cell 9
  have y10 : w3.cell? ⟨w.heap.size + 1, 10, none⟩ = some (.int .u64 0) := (show Blk w3 (w.heap.size + 1) 40 lvAV from KA3.out).cell 10
  have y11 : w3.cell? ⟨w.heap.size + 1, 11, none⟩ = some (.int .u64 0) := (show Blk w3 (w.heap.size + 1) 40 lvAV from KA3.out).cell 11
  have y12 : w3.cell? ⟨w.heap.size + 1, 12, none⟩ = some (.int .u64 0) := (show Blk w3 (w.heap.size + 1) 40 lvAV from KA3.out).cell 12
  have y13 : w3.cell? ⟨w.heap.size + 1, 13, none⟩ = some (.slice none 0 0) := (show Blk w3 (w.heap.size + 1) 40 lvAV from KA3.out).cell 13
  have HC2 : Hid (Calls Try.prog 14 #[.slice (some ⟨w3.heap.size, 0, none⟩) 2 2] (w3.alloc (.cells lvC2 40)) fun e w' => e = .returned (.bool true) ∧ Below (w3.alloc (.cells lvC2 40)).heap.size (w3.alloc (.cells lvC2 40)) w') := by
    have h := quiet_any (ms_block (D := fun _ => False) (lp := [(lvQ, hdZ), (lvA, hdZ)]) (blk11 w3 40 lvC2) rfl (fun p hp => by
      simp only [List.mem_cons, List.not_mem_nil, or_false] at hp
      rcases hp with rfl | rfl
      · exact lv_in _ (.inl rfl)
      · exact lv_in _ (.inr rfl)) (by decide)) (fun k hk => by
      rcases hk with hk | rfl
      · exact hk.elim
      · simp) (by decide)
    refine h.mono fun e w' hq => ?_
    obtain ⟨hb, ⟨q, rfl, h0, hg, hi⟩ | ⟨rfl, h0⟩⟩ := hq
    · exact ⟨by rw [hi.2 lv_open], hb⟩
    · exact absurd (by have h1 := res_good (lv_good []); show (res [lvQ, lvA]).2 = 0; rw [h1]) h0
  have HB4 := Lib.hid (stepB HB3.out (below1 w3 (.cells lvC2 40)))
  go_wp2_with fail
  refine HC2.out.mono ?_; rintro e w4 ⟨rfl, hb4⟩
  have HB5 := Lib.hid (stepB HB4.out hb4)
  clear hb4 z0 z1 z2 z3 z4 z5 z6 z7 z8 z9 z10 z11 z12 z13 y0 y1 y2 y3 y4 y5 y6 y7 y8 y9 y10 y11 y12 y13
  go_wp2_with fail
  go_ret
  exact ⟨rfl, HB5.out⟩
end Go.Proofs.Ytnihaaifkogpbaa
/- TalkTakes: the walk. -/
namespace Go.Proofs.Ytnihaaifkogpbaa
open Go.ChangeShapes Go.WideShapes Go.ChangeAt Go.RowKit
set_option linter.unusedVariables false
/-- What the 64 slices read. -/
def TArr (w : World) (gt : Nat) (B : Nat → List Nat) : Prop :=
  ∃ cur : Array Value, Blk w gt 30 cur ∧ cur.size = 64 ∧ ∀ s, s < 64 → ∃ (A : Option Addr) (n c : Nat), cur[s]? = some (.slice A n c) ∧ rpU64.sl w (Tb T64 (fun _ => False) w) A n c (B s)
theorem TArr.below {w w' : World} {gt : Nat} {B : Nat → List Nat} (h : TArr w gt B) (hb : Below w.heap.size w w') : TArr w' gt B := by
  obtain ⟨cur, h1, h2, h3⟩ := h
  refine ⟨cur, keepB h1 hb, h2, fun s hs => ?_⟩
  obtain ⟨A, n, c, h4, h5⟩ := h3 s hs
  exact ⟨A, n, c, h4, tb_belowU h5 hb⟩
theorem TArr.chg {w w' : World} {gt gu : Nat} {cs : Array Value} {t : TypeId} {B : Nat → List Nat} (h : TArr w gt B) (hc : Chg (fun k => k = gu) w w') (hu : Blk w gu t cs) (ht : ¬ T64 t) (hne : gt ≠ gu) : TArr w' gt B := by
  obtain ⟨cur, h1, h2, h3⟩ := h
  have hk : ∀ k, Tb T64 (fun _ => False) w k → w'.heap[k]? = w.heap[k]? := fun k hk => hc.block k hk.1 (fun e => by
    subst e
    rcases hk.2 with h | ⟨cs', t', h, ht'⟩
    · exact h
    · obtain rfl := blk_type hu h
      exact ht ht')
  refine ⟨cur, chB h1 hc hne, h2, fun s hs => ?_⟩
  obtain ⟨A, n, c, h4, h5⟩ := h3 s hs
  exact ⟨A, n, c, h4, Rp.sl_more (Rp.sl_keep h5 hk) (fun k hkk => Tb.keep hk hc.size hkk)⟩
theorem TArr.cong {w : World} {gt : Nat} {B B' : Nat → List Nat} (h : TArr w gt B) (he : ∀ s, B s = B' s) : TArr w gt B' := by
  rw [show B' = B from funext fun s => (he s).symm]; exact h
theorem TArr.put {w : World} {gt : Nat} {B : Nat → List Nat} {cur : Array Value} (h1 : Blk w gt 30 cur) (h2 : cur.size = 64) (h3 : ∀ s, s < 64 → ∃ (A : Option Addr) (n c : Nat), cur[s]? = some (.slice A n c) ∧ rpU64.sl w (Tb T64 (fun _ => False) w) A n c (B s)) {s : Nat} (hs : s < 64) {A : Option Addr} {n c : Nat} {l : List Nat} (hl : rpU64.sl w (Tb T64 (fun _ => False) w) A n c l) :
    TArr (w.setCell ⟨gt, s, none⟩ (.slice A n c)) gt (fun s' => if s' = s then l else B s') := by
  have hc : Chg (fun k => k = gt) w (w.setCell ⟨gt, s, none⟩ (.slice A n c)) := (Chg.refl (fun k => k = gt) w).setCell (p := ⟨gt, s, none⟩) (.inl rfl) _
  have hk : ∀ k, Tb T64 (fun _ => False) w k → (w.setCell ⟨gt, s, none⟩ (.slice A n c)).heap[k]? = w.heap[k]? := fun k hk => hc.block k hk.1 (fun e => by
    subst e
    rcases hk.2 with h | ⟨cs', t', h, ht'⟩
    · exact h
    · obtain rfl := blk_type h1 h
      exact absurd ht' (by unfold T64; decide))
  refine ⟨_, h1.put s _, by rw [Array.size_setIfInBounds]; exact h2, fun s' hs' => ?_⟩
  by_cases he : s' = s
  · subst he
    refine ⟨A, n, c, ?_, ?_⟩
    · rw [Array.getElem?_setIfInBounds_self_of_lt (by omega)]
    · show rpU64.sl _ _ A n c (if s' = s' then l else B s')
      rw [if_pos rfl]
      exact Rp.sl_more (Rp.sl_keep hl hk) (fun k hkk => Tb.keep hk hc.size hkk)
  · obtain ⟨A', n', c', h4, h5⟩ := h3 s' hs'
    refine ⟨A', n', c', ?_, ?_⟩
    · rw [Array.getElem?_setIfInBounds_ne (fun e => he e.symm)]; exact h4
    · show rpU64.sl _ _ A' n' c' (if s' = s then l else B s')
      rw [if_neg he]
      exact Rp.sl_more (Rp.sl_keep h5 hk) (fun k hkk => Tb.keep hk hc.size hkk)
theorem take_minlen (l : List Nat) : l.take (min l.length 4) = l.take 4 := by
  rcases Nat.le_total l.length 4 with h | h
  · rw [Nat.min_eq_left h, List.take_of_length_le (Nat.le_refl _), List.take_of_length_le h]
  · rw [Nat.min_eq_right h]
theorem bchg {F : Dom} {B : Nat} {a w w' : World} (h : Below B a w) (hc : Chg F w w') (hB : B ≤ w.heap.size) (hF : ∀ k, F k → B ≤ k) : Below B a w' :=
  ⟨hc.os.trans h.os, hc.tape.trans h.tape, hc.output.trans h.output, Nat.le_trans h.size hc.size, fun i hi => (hc.block i (by omega) (fun hf => by have := hF i hf; omega)).trans (h.block i hi)⟩
abbrev z64 : Array Value := #[.slice none 0 0, .slice none 0 0, .slice none 0 0, .slice none 0 0, .slice none 0 0, .slice none 0 0, .slice none 0 0, .slice none 0 0, .slice none 0 0, .slice none 0 0, .slice none 0 0, .slice none 0 0, .slice none 0 0, .slice none 0 0, .slice none 0 0, .slice none 0 0, .slice none 0 0, .slice none 0 0, .slice none 0 0, .slice none 0 0, .slice none 0 0, .slice none 0 0, .slice none 0 0, .slice none 0 0, .slice none 0 0, .slice none 0 0, .slice none 0 0, .slice none 0 0, .slice none 0 0, .slice none 0 0, .slice none 0 0, .slice none 0 0, .slice none 0 0, .slice none 0 0, .slice none 0 0, .slice none 0 0, .slice none 0 0, .slice none 0 0, .slice none 0 0, .slice none 0 0, .slice none 0 0, .slice none 0 0, .slice none 0 0, .slice none 0 0, .slice none 0 0, .slice none 0 0, .slice none 0 0, .slice none 0 0, .slice none 0 0, .slice none 0 0, .slice none 0 0, .slice none 0 0, .slice none 0 0, .slice none 0 0, .slice none 0 0, .slice none 0 0, .slice none 0 0, .slice none 0 0, .slice none 0 0, .slice none 0 0, .slice none 0 0, .slice none 0 0, .slice none 0 0, .slice none 0 0]
theorem z64_at (s : Nat) (hs : s < 64) : z64[s]? = some (.slice none 0 0) := by
  have e : z64 = Array.replicate 64 (.slice none 0 0) := rfl
  rw [e, Array.getElem?_replicate, if_pos hs]
/-- The request of a round. -/
abbrev qM (i ct : Nat) (ss : List Nat) : Ms := ⟨6, 1, i, 0, (ct : Int), 0, ss, [], [], (0, 0, 0), (0, [])⟩
theorem qM_ok {i ct : Nat} {ss : List Nat} (h1 : 1 ≤ ct) (h2 : ct ≤ 65536) (h3 : ss.length ≤ 16) (h4 : Rises ss) : MOk (qM i ct ss) := by
  refine ⟨⟨show Kd.right 6 = true by decide +kernel, part_no (show Kd.has 6 1 = false by decide +kernel) rfl, part_yes (show Kd.has 6 2 = true by decide +kernel) ⟨by show (1 : Int) ≤ (ct : Int); omega, by show (ct : Int) ≤ 65536; omega⟩, part_no (show Kd.has 6 4 = false by decide +kernel) rfl, part_yes (show Kd.has 6 8 = true by decide +kernel) ⟨h3, h4⟩, part_no (show Kd.has 6 16 = false by decide +kernel) rfl, part_no (show Kd.has 6 64 = false by decide +kernel) rfl, part_no (show Kd.has 6 128 = false by decide +kernel) ⟨rfl, rfl⟩, .inl rfl⟩, show EOk 1 by unfold EOk; decide⟩
theorem rises_pw {l : List Nat} (h : l.Pairwise (· < ·)) : Rises l := fun i a b h1 h2 => by
  obtain ⟨hi, rfl⟩ := List.getElem?_eq_some_iff.1 h1
  obtain ⟨hj, rfl⟩ := List.getElem?_eq_some_iff.1 h2
  exact List.pairwise_iff_getElem.1 h i (i + 1) hi hj (Nat.lt_succ_self i)
theorem pw_nodup {l : List Nat} (h : l.Pairwise (· < ·)) : l.Nodup := h.imp (fun h => Nat.ne_of_lt h)
theorem qM_in {w : World} {D : Dom} {i ct n c : Nat} {A : Option Addr} {ss : List Nat} (hs : rpU64.sl w D A n c ss) (hD : ∀ k, D k → k < w.heap.size) (hi : i ≤ 1000) (hc : ct ≤ 1000) : MsIn w D (qM i ct ss) { hdZa with A1 := A, n1 := n, c1 := c } := by
  refine ⟨hs, Rp.sl_nil _ _ _ _ _ (Nat.zero_le _), Rp.sl_nil _ _ _ _ _ (Nat.zero_le _), Rp.sl_nil _ _ _ _ _ (Nat.zero_le _), hD, ?_, ?_, ?_, ?_, ?_, ?_, ?_, ?_, ?_, ?_, ?_, ?_, ?_⟩
  all_goals (simp only []; omega)
theorem dsc_at (p : Nat) : ∀ (J j : Nat), j < J → (dsc p J)[j]? = some (p + J - 1 - j)
  | J + 1, 0, _ => by rw [dsc]; show some _ = some _; congr 1
  | J + 1, j + 1, h => by rw [dsc, List.getElem?_cons_succ, dsc_at p J j (by omega)]; congr 1; omega
theorem dsc_len (p : Nat) : ∀ J, (dsc p J).length = J
  | 0 => rfl
  | J + 1 => by rw [dsc, List.length_cons, dsc_len p J]
theorem dsc_take {p J j : Nat} (h : j < J) : (dsc p J).take (j + 1) = (dsc p J).take j ++ [p + J - 1 - j] := by
  rw [List.take_add_one, dsc_at p J j h]; rfl
section
variable {D D' : Dom} {A A2 : Option Addr} {n c m c2 : Nat} {cs ss : List Nat} {w : World}
set_option maxRecDepth 100000 in
set_option maxHeartbeats 16000000 in
theorem talkTakes_any (hs : rpU16.sl w D A n c cs) (hD : ∀ k, D k → k < w.heap.size) (hs2 : rpU64.sl w D' A2 m c2 ss) (hD2 : ∀ k, D' k → k < w.heap.size) :
    Calls Try.prog 3 #[.slice A n c, .slice A2 m c2] w fun e w' => e = .returned (.bool true) ∧ Below w.heap.size w w' := by
  have HCS := Lib.hid (show Sl rpU16 w D A n c cs from ⟨hs, hD⟩)
  have HSS := Lib.hid (show Sl rpU64 w D' A2 m c2 ss from ⟨hs2, hD2⟩)
  have HN := Lib.hid (Rp.sl_len hs).1
  have HM := Lib.hid (Rp.sl_len hs2).1
  clear hs hD hs2 hD2
  by_cases hlong : 12 < n ∨ 12 < m
  case pos =>
    have HLV := Lib.hid (live30_any w)
    by_cases h1 : 12 < n
    case pos =>
      have hd1 : decide ((n : Int) > 12) = true := by simp; omega
      have hd1b : decide ((12 : Int) < (n : Int)) = true := by simp; omega
      have hd1c : decide (12 < n) = true := by simp; omega
      go_enter Try.func3, Try.ntmps3
      go_wp2_with fail
      refine HLV.out.mono ?_; rintro e w1 ⟨rfl, hb1⟩
      have HB1 := Lib.hid hb1
      clear hb1
      go_wp2_with fail
      go_ret
      exact ⟨rfl, HB1.out⟩
    case neg =>
      have hd1 : decide ((n : Int) > 12) = false := by simp; omega
      have hd1c : decide (12 < n) = false := by simp; omega
      have hd2 : decide ((m : Int) > 12) = true := by simp; omega
      have hd2c : decide (12 < m) = true := by simp; omega
      go_enter Try.func3, Try.ntmps3
      go_wp2_with fail
      refine HLV.out.mono ?_; rintro e w1 ⟨rfl, hb1⟩
      have HB1 := Lib.hid hb1
      clear hb1
      go_wp2_with fail
      go_ret
      exact ⟨rfl, HB1.out⟩
  case neg =>
  have hn12 : n ≤ 12 := by omega
  have hm12 : m ≤ 12 := by omega
  have hd1 : decide ((n : Int) > 12) = false := by simp; omega
  have hd1c : decide (12 < n) = false := by simp; omega
  have hd2 : decide ((m : Int) > 12) = false := by simp; omega
  have hd2c : decide (12 < m) = false := by simp; omega
  clear hlong
  have HNU := Lib.hid (newUnit_any (nd := 1) (ep := 1) w (by decide) (by unfold EOk; decide))
  go_enter Try.func3, Try.ntmps3
  go_upto_region 7 with
    (go_at_call 6
     refine HNU.out.mono ?_
     rintro e w1 ⟨rfl, hw1⟩
     have hb1 : Below w.heap.size w w1 := by rw [hw1]; exact below2 w _ _
     have KU := Lib.hid (show Blk w1 (w.heap.size + 1) 60 (unV 1 1 false (.map (some w.heap.size)) 0 (.pointer none) 0 none 0 0) by
       rw [hw1]
       have h := Blk.new (w.alloc (.map #[] 0)) 60 (unV 1 1 false (.map (some w.heap.size)) 0 (.pointer none) 0 none 0 0)
       have e : (w.alloc (.map #[] 0)).heap.size = w.heap.size + 1 := by simp
       rw [e] at h
       exact h)
     have HB1 := Lib.hid hb1
     clear hw1 hb1)
  clear hd1 hd1c hd2 hd2c HNU
  obtain ⟨gm, hgm⟩ : ∃ gm, gm = Value.map (some w.heap.size) := ⟨_, rfl⟩
  obtain ⟨gu, hgu⟩ : ∃ gu, gu = w.heap.size + 1 := ⟨_, rfl⟩
  rw [← hgm, ← hgu] at KU
  rw [← hgu]
  have HGU := Lib.hid hgu
  clear hgm hgu
  go_upto_region 8 with (fail)
  have hb2 := below1 w1 (.cells z64 30)
  have KT := Lib.hid (blk11 w1 30 z64)
  have KU2 := Lib.hid (keepB (show Blk w1 gu 60 (unV 1 1 false gm 0 (.pointer none) 0 none 0 0) from KU.out) hb2)
  have HB2 := Lib.hid (stepB HB1.out hb2)
  obtain ⟨gt, hgt⟩ : ∃ gt, gt = w1.heap.size := ⟨_, rfl⟩
  rw [← hgt] at KT ⊢
  have HGT := Lib.hid hgt
  have HUT : Hid (gu < gt) := by show gu < gt; rw [hgt]; exact (show Blk w1 gu 60 _ from KU.out).lt
  clear hb2 hgt KU
  generalize World.alloc w1 _ = w2 at *
  obtain ⟨tb, htb⟩ : ∃ tb, tb = w2.heap.size := ⟨_, rfl⟩
  have HTB := Lib.hid htb
  have HT0 : Hid (TArr w2 gt (bk [])) := ⟨z64, KT.out, rfl, fun s hs => ⟨none, 0, 0, z64_at s hs, Rp.sl_nil _ _ _ _ _ (by decide)⟩⟩
  clear htb KT
  go_wp2_with fail
  go_loopw [7, 9] (fun v7 v9 wr => ∃ (i nx : Nat) (At : Option Addr) (nt ct : Nat) (T : List Lnk), i ≤ n ∧ v7 = .int .u64 (nx : Int) ∧ v9 = .int .i64 (i : Int) ∧ nx ≤ i * 1000 ∧ Hid (Blk wr gu 60 (unV 1 1 false gm 0 (.pointer none) nx At nt ct)) ∧ Hid (OLk wr tb At nt ct T) ∧ Hid (TkOk (i * 64) T) ∧ Hid (TArr wr gt (bk T)) ∧ Hid (Below w.heap.size w wr) ∧ Hid (tb ≤ wr.heap.size)) (fun _ v9 _ => n - (intOf v9).toNat)
  case atStart => exact ⟨0, 0, none, 0, 0, [], by omega, rfl, rfl, by omega, KU2.out, OL.nil _ _ _ _ _ _, ⟨Nat.le_refl _, fun x hx => by cases hx⟩, HT0.out, HB2.out, by rw [HTB.out]; exact Nat.le_refl _⟩
  case round =>
    clear KU2 HT0 HB2 HB1
    obtain ⟨i, nx, At, nt, ct, T, hi, rfl, rfl, hnx, hu, ho, htk, hta, hbel, htb⟩ := hrel
    by_cases hin : i < n
    case neg =>
      obtain rfl : i = n := by omega
      have hd : decide ((i : Int) < (i : Int)) = false := by simp
      have HLV := Lib.hid (live30_any wr)
      go_wp2_with fail
      refine HLV.out.mono ?_; rintro e wz ⟨rfl, hbz⟩
      have HBZ := Lib.hid (stepB hbel.out hbz)
      clear hbz
      go_wp2_with fail
      go_ret
      exact ⟨rfl, HBZ.out⟩
    case pos =>
      have hd : decide ((i : Int) < (n : Int)) = true := by simp; omega
      have hiI : (0 : Int) ≤ (i : Int) := by omega
      have hiI2 : (i : Int) < (n : Int) := by omega
      obtain ⟨y, hy⟩ : ∃ y, cs[i]? = some y := ⟨_, List.getElem?_eq_getElem (by have := HN.out; omega)⟩
      obtain ⟨bo, off, hAe, hcell, hy16⟩ : ∃ bo off, A = some ⟨bo, off, none⟩ ∧ wr.cell? ⟨bo, off + i, none⟩ = some (.int .u16 (y : Int)) ∧ y < 65536 := by
        obtain ⟨bo, off, x, cs', hA, hb, hx, hcc, hg⟩ := Rp.sl_at (keepS HCS.out hbel.out).1 hin
        rw [hy] at hx
        injection hx with hx
        subst hx
        obtain ⟨rfl, h64⟩ := hcc
        refine ⟨bo, off, hA, ?_, h64⟩
        have hh := hg 0 _ rfl
        have e : off + i * rpU16.size + 0 = off + i := by show off + i * 1 + 0 = off + i; omega
        rw [e] at hh
        exact hh
      subst hAe
      obtain ⟨cv, hcv⟩ : ∃ cv, cv = 1 + y % 1000 := ⟨_, rfl⟩
      have hcvb : 1 ≤ cv ∧ cv ≤ 1000 := by omega
      have hiw : IntKind.u64.wrap (i : Int) = (i : Int) := IntWalk.u64_in _ (by omega)
      have hyw : IntKind.i64.wrap (y : Int) = (y : Int) := IntWalk.i64_in _ (by omega)
      have hyr : Int.tmod (y : Int) 1000 = ((y % 1000 : Nat) : Int) := rfl
      go_upto_region 12 with (fail)
      rw [show (1 + (y : Int) % 1000) = (cv : Int) by omega]
      have hb3 := below1 wr (.cells (msV (qM i cv []) hdZa) 40)
      have KQ := Lib.hid (blk11 wr 40 (msV (qM i cv []) hdZa))
      have HB3 := Lib.hid hb3
      obtain ⟨gq, hgq⟩ : ∃ gq, gq = wr.heap.size := ⟨_, rfl⟩
      rw [← hgq] at KQ ⊢
      have HGQ := Lib.hid hgq
      obtain ⟨w0, hw0⟩ : ∃ w0, w0 = wr := ⟨_, rfl⟩
      subst hw0
      have HCV := Lib.hid hcvb
      clear hb3 hgq hcell hyr hyw hcv hy
      generalize World.alloc w0 _ = w3 at *
      go_wp2_with fail
      go_loopw [11] (fun v11 wr => ∃ (k : Nat) (Aq : Option Addr) (nq cq : Nat) (Ls : List Nat), k ≤ 64 ∧ v11 = .int .u64 (k : Int) ∧ nq ≤ 16 ∧ Hid (Blk wr gq 40 (msV (qM i cv Ls) { hdZa with A1 := Aq, n1 := nq, c1 := cq })) ∧ Hid (wr.ownsRow (gq + 1) 29 1 (.slice Aq nq cq) nq (Ls.map uv)) ∧ Hid (Ls.Pairwise (· < ·) ∧ ∀ x ∈ Ls, x < k) ∧ Hid (Below w0.heap.size w0 wr)) (fun v11 _ => 64 - (intOf v11).toNat)
      case atStart => exact ⟨0, none, 0, 0, [], by omega, rfl, by omega, KQ.out, World.ownsRow_nil _ _ _ _, ⟨List.Pairwise.nil, fun x hx => by cases hx⟩, HB3.out⟩
      case round =>
        clear KQ HB3
        obtain ⟨k, Aq, nq, cq, Ls, hk, rfl, hnq, hkq, hrow, hls, hbq⟩ := hrel
        have q6 := (show Blk wr gq 40 (msV (qM i cv Ls) { hdZa with A1 := Aq, n1 := nq, c1 := cq }) from hkq.out).cell 6
        obtain ⟨cb, hcb⟩ : ∃ cb : Bool, cb = (decide (k < 64) && (decide (i < m) && decide (nq < 16))) := ⟨_, rfl⟩
        have HCB := Lib.hid hcb
        go_upto_region 13 with (fail)
        go_cut [62] (fun v62 wx => v62 = .bool cb ∧ wx = wr)
        case first =>
          by_cases h1 : k < 64
          case neg =>
            have hd1 : decide ((k : Int) < 64) = false := by simp; omega
            have hd1b : decide (k < 64) = false := by simp; omega
            rw [hd1b] at hcb
            simp only [Bool.false_and] at hcb
            subst hcb
            go_wp2_with fail
            go_meet
            exact ⟨by first | rfl | simp, rfl⟩
          case pos =>
            have hd1 : decide ((k : Int) < 64) = true := by simp; omega
            have hd1b : decide (k < 64) = true := by simp; omega
            rw [hd1b] at hcb
            simp only [Bool.true_and] at hcb
            by_cases h2 : i < m
            case neg =>
              have hd2 : decide ((i : Int) < (m : Int)) = false := by simp; omega
              have hd2b : decide (i < m) = false := by simp; omega
              rw [hd2b] at hcb
              simp only [Bool.false_and] at hcb
              subst hcb
              go_wp2_with fail
              go_meet
              exact ⟨by first | rfl | simp, rfl⟩
            case pos =>
              have hd2 : decide ((i : Int) < (m : Int)) = true := by simp; omega
              have hd2b : decide (i < m) = true := by simp; omega
              rw [hd2b] at hcb
              simp only [Bool.true_and] at hcb
              have hd3 : decide ((nq : Int) < 16) = cb := by rw [hcb]; by_cases h3 : nq < 16 <;> simp [h3] <;> omega
              have hd3b : decide (nq < 16) = cb := hcb.symm
              clear hcb
              go_wp2_with fail
              go_meet
              exact ⟨by first | rfl | simp [hd3b] | simp [hd3], rfl⟩
        case rest =>
        obtain ⟨rfl, hwc⟩ := hcut
        subst hwc
        obtain ⟨wq, hwq⟩ : ∃ wq, wq = wc := ⟨_, rfl⟩
        subst hwq
        clear hcb
        cases cb
        case true =>
          have hc := HCB.out.symm
          rw [Bool.and_eq_true, Bool.and_eq_true, decide_eq_true_iff, decide_eq_true_iff, decide_eq_true_iff] at hc
          obtain ⟨hk64, him, hnq16⟩ := hc
          obtain ⟨z, bo2, off2, hz, hAe, hzc⟩ : ∃ z bo2 off2, ss[i]? = some z ∧ A2 = some ⟨bo2, off2, none⟩ ∧ wq.cell? ⟨bo2, off2 + i, none⟩ = some (.int .u64 (z : Int)) := by
            obtain ⟨bo, off, x, cs', hA, hb, hx, hcc, hg⟩ := Rp.sl_at (keepS (keepS HSS.out hbel.out) hbq.out).1 him
            obtain ⟨rfl, h64⟩ := hcc
            refine ⟨x, bo, off, hx, hA, ?_⟩
            have hh := hg 0 _ rfl
            have e : off + i * rpU64.size + 0 = off + i := by show off + i * 1 + 0 = off + i; omega
            rw [e] at hh
            exact hh
          subst hAe
          have hiI3 : (i : Int) < (m : Int) := by omega
          go_upto_region 15 with (fail)
          go_cut [72] (fun v72 wx => ∃ bv : Bool, v72 = .bool bv ∧ wx = wq)
          case first =>
            go_wp2_with fail
            go_meet
            exact ⟨_, rfl, rfl⟩
          case rest =>
          obtain ⟨bv, rfl, hwc2⟩ := hcut
          subst hwc2
          obtain ⟨wq, hwq⟩ : ∃ wq, wq = wc := ⟨_, rfl⟩
          subst hwq
          have hkw : IntKind.u64.wrap ((k : Int) + 1) = ((k + 1 : Nat) : Int) := by rw [IntWalk.u64_in _ (by omega)]; omega
          clear hzc hz
          cases bv
          case false =>
            clear q6
            go_wp2_with fail
            go_roundw
            case rel => exact ⟨k + 1, Aq, nq, cq, Ls, by omega, by go_num, hnq, hkq, hrow, ⟨hls.out.1, fun x hx => by have := hls.out.2 x hx; omega⟩, hbq⟩
            case measure => simp [intOf]; omega
          case true =>
            have hla := hrow.out.alloc (.cells #[.int .u64 (k : Int)] 29)
            have HLA := Lib.hid hla
            have hba := below1 wq (.cells #[.int .u64 (k : Int)] 29)
            have HBA := Lib.hid (stepB hbq.out hba)
            have KQA := Lib.hid (keepB (show Blk wq gq 40 (msV (qM i cv Ls) { hdZa with A1 := Aq, n1 := nq, c1 := cq }) from hkq.out) hba)
            have hgqs : gq + 1 ≤ wq.heap.size := Nat.succ_le_of_lt (show Blk wq gq 40 _ from hkq.out).lt
            have HGS := Lib.hid hgqs
            have hmx : nq + 1 ≤ maxLen := by unfold maxLen; omega
            clear hla hba
            go_wp2_with
              (first
               | (at_builtin; refine wpList_app rfl (.tmp 74) (.tmp 76) _ rfl elem64 rfl HLA.out rfl (Src.new wq (.int .u64 (k : Int)) _ rfl) hmx (by omega) (by simp; omega) ?_; intro A3 c3 w4 ho4 hg4 hat4
                  have HO4 := Lib.hid ho4
                  have k4 := KQA.out.grown hg4 (fun e => by have h1 := (HLA.out.lt gq e.symm).1; omega)
                  have K4 := Lib.hid k4
                  have HB4 := Lib.hid (HBA.out.grown hg4 HBA.out.size (fun q hq => by have h1 := (HLA.out.lt q hq).1; have := HGQ.out; omega))
                  have z6 := k4.cell 6
                  have zf6 := k4.frozen 6
                  clear ho4 hg4 hat4 k4))
            have c5 : Chg (fun k => k = gq) w4 (w4.setCell ⟨gq, 6, none⟩ (.slice A3 (nq + 1) c3)) := (Chg.refl (fun k => k = gq) w4).setCell (p := ⟨gq, 6, none⟩) (.inl rfl) _
            have K5 : Hid (Blk (w4.setCell ⟨gq, 6, none⟩ (.slice A3 (nq + 1) c3)) gq 40 (msV (qM i cv (Ls ++ [k])) { hdZa with A1 := A3, n1 := nq + 1, c1 := c3 })) := (show Blk w4 gq 40 _ from K4.out).put 6 _
            have HO5 := Lib.hid (chO HO4.out c5 (fun q hq e => by have h1 := (HO4.out.lt q hq).1; omega))
            have HB5 := Lib.hid (HB4.out.setCell (p := ⟨gq, 6, none⟩) (by rw [← HGQ.out]; exact Nat.le_refl _) (.slice A3 (nq + 1) c3))
            go_roundw
            case rel => exact ⟨k + 1, A3, nq + 1, c3, Ls ++ [k], by omega, by go_num, by omega, K5, (by rw [List.map_append]; exact HO5), ⟨List.pairwise_append.2 ⟨hls.out.1, List.pairwise_singleton _ _, fun x hx y hy => by rw [List.mem_singleton] at hy; have := hls.out.2 x hx; omega⟩, fun x hx => by
              rcases List.mem_append.1 hx with h | h
              · have := hls.out.2 x h; omega
              · rw [List.mem_singleton] at h; omega⟩, HB5⟩
            case measure => clear hmx hgqs; simp [intOf]; omega
        case false =>
          clear q6 HCB
          have hls64 : ∀ x ∈ Ls, x < 18446744073709551616 := fun x hx => by have := hls.out.2 x hx; omega
          have HQS : Hid (rpU64.sl wq (fun kk => some kk = (Value.slice Aq nq cq).ownBlock) Aq nq cq Ls) := own_u64 hrow.out hls64
          have HLEN : Hid (Ls.length = nq) := (Rp.sl_len HQS.out).1
          have HIN := Lib.hid (qM_in (i := i) (ct := cv) HQS.out (own_dom hrow.out) (by omega) (by omega))
          have HUG : Hid (gu < gq) := by show gu < gq; rw [HGQ.out]; exact (show Blk w0 gu 60 _ from hu.out).lt
          have HUQ := Lib.hid (keepB (show Blk w0 gu 60 (unV 1 1 false gm 0 (.pointer none) nx At nt ct) from hu.out) hbq.out)
          have HOQ := Lib.hid (OL.below ho.out hbq.out)
          have HAN := Lib.hid (ansTake_any (q := qM i cv Ls) HUQ.out HOQ.out htk.out (show i * 64 ≤ 80000 by omega) (Nat.le_trans htb.out hbq.out.size) HIN.out (fun kk hk e => by have h1 := (hrow.out.lt kk hk.symm).1; have := HUG.out; omega) (show (cv : Int) ≤ 65536 by omega) (show (nx : Int) + (cv : Int) ≤ 4611686018427387904 by omega) rfl rfl (qM_ok hcvb.1 (by omega) (by rw [HLEN.out]; exact hnq) (rises_pw hls.out.1)) (by show Ls.length ≤ 16; rw [HLEN.out]; exact hnq) (by show (1 : Int) ≤ (cv : Int); omega))
          have hq0 := (show Blk wq gq 40 (msV (qM i cv Ls) { hdZa with A1 := Aq, n1 := nq, c1 := cq }) from hkq.out).cell 0
          have hq1 := (show Blk wq gq 40 (msV (qM i cv Ls) { hdZa with A1 := Aq, n1 := nq, c1 := cq }) from hkq.out).cell 1
          have hq2 := (show Blk wq gq 40 (msV (qM i cv Ls) { hdZa with A1 := Aq, n1 := nq, c1 := cq }) from hkq.out).cell 2
          have hq3 := (show Blk wq gq 40 (msV (qM i cv Ls) { hdZa with A1 := Aq, n1 := nq, c1 := cq }) from hkq.out).cell 3
          have hq4 := (show Blk wq gq 40 (msV (qM i cv Ls) { hdZa with A1 := Aq, n1 := nq, c1 := cq }) from hkq.out).cell 4
          have hq5 := (show Blk wq gq 40 (msV (qM i cv Ls) { hdZa with A1 := Aq, n1 := nq, c1 := cq }) from hkq.out).cell 5
          have hq6 := (show Blk wq gq 40 (msV (qM i cv Ls) { hdZa with A1 := Aq, n1 := nq, c1 := cq }) from hkq.out).cell 6
          have hq7 := (show Blk wq gq 40 (msV (qM i cv Ls) { hdZa with A1 := Aq, n1 := nq, c1 := cq }) from hkq.out).cell 7
          have hq8 := (show Blk wq gq 40 (msV (qM i cv Ls) { hdZa with A1 := Aq, n1 := nq, c1 := cq }) from hkq.out).cell 8
          have hq9 := (show Blk wq gq 40 (msV (qM i cv Ls) { hdZa with A1 := Aq, n1 := nq, c1 := cq }) from hkq.out).cell 9
          have hq10 := (show Blk wq gq 40 (msV (qM i cv Ls) { hdZa with A1 := Aq, n1 := nq, c1 := cq }) from hkq.out).cell 10
          have hq11 := (show Blk wq gq 40 (msV (qM i cv Ls) { hdZa with A1 := Aq, n1 := nq, c1 := cq }) from hkq.out).cell 11
          have hq12 := (show Blk wq gq 40 (msV (qM i cv Ls) { hdZa with A1 := Aq, n1 := nq, c1 := cq }) from hkq.out).cell 12
          have hq13 := (show Blk wq gq 40 (msV (qM i cv Ls) { hdZa with A1 := Aq, n1 := nq, c1 := cq }) from hkq.out).cell 13
          have HTQ := Lib.hid (hta.out.below hbq.out)
          have HGTQ : Hid (gt < gq) := by
            show gt < gq
            obtain ⟨cur, h1, _⟩ := hta.out
            rw [HGQ.out]; exact h1.lt
          have HUQ2 := HUQ
          clear hls64 HIN HUQ HOQ
          go_upto_region 18 with
            (go_at_call 7
             refine HAN.out.mono ?_
             rintro e w4 ⟨h', rfl, h4l, ⟨At', nt', ct', h4u, h4o⟩, h4c⟩
             have hb5 := below1 w4 (.cells (msV (ansT (qM i cv Ls) nx T) h') 40)
             have KA5 := Lib.hid (blk11 w4 40 (msV (ansT (qM i cv Ls) nx T) h'))
             have HL5 := Lib.hid (OL.below h4l hb5)
             have HU5 := Lib.hid (keepB h4u hb5)
             have HO5 := Lib.hid (OL.below h4o hb5)
             have HC5 := Lib.hid (h4c.trans (Chg.of_pure hb5 _))
             have HZ4 := Lib.hid h4c.size
             clear h4l h4u h4o h4c hb5)
          obtain ⟨A1', n1', c1', Al, nl, cl, A3', n3', c3', A4', n4', c4'⟩ := h'
          obtain ⟨ga, hga⟩ : ∃ ga, ga = w4.heap.size := ⟨_, rfl⟩
          rw [← hga] at KA5 HZ4 ⊢
          have HGA := Lib.hid hga
          clear hga hq0 hq1 hq2 hq3 hq4 hq5 hq6 hq7 hq8 hq9 hq10 hq11 hq12 hq13
          generalize World.alloc w4 _ = w5 at *
          have hnl : nq = nl := by have h1 := HL5.out.len; rw [List.length_map, HLEN.out] at h1; exact h1
          subst hnl
          have K5 := Lib.hid (chB (show Blk wq gq 40 (msV (qM i cv Ls) { hdZa with A1 := Aq, n1 := nq, c1 := cq }) from hkq.out) HC5.out (by have := HUG.out; show ¬ gq = gu; omega))
          have HT5 := Lib.hid (hta.out.below hbq.out |>.chg HC5.out HUQ2.out (by unfold T64; decide) (by have := HUT; have h2 : gu < gt := HUT; omega))
          have HQS5 := Lib.hid (chS (show Sl rpU64 wq (fun kk => some kk = (Value.slice Aq nq cq).ownBlock) Aq nq cq Ls from ⟨HQS.out, own_dom hrow.out⟩) HC5.out (fun kk hk e => by have h1 := (hrow.out.lt kk hk.symm).1; have := HUG.out; omega))
          have hq4 := (show Blk w5 gq 40 (msV (qM i cv Ls) { hdZa with A1 := Aq, n1 := nq, c1 := cq }) from K5.out).cell 4
          have hq6 := (show Blk w5 gq 40 (msV (qM i cv Ls) { hdZa with A1 := Aq, n1 := nq, c1 := cq }) from K5.out).cell 6
          have ha0 := (show Blk w5 ga 40 _ from KA5.out).cell 0
          have ha3 := (show Blk w5 ga 40 _ from KA5.out).cell 3
          have ha7 := (show Blk w5 ga 40 _ from KA5.out).cell 7
          obtain ⟨pe, hpe⟩ : ∃ pe, pe = nx + cv := ⟨_, rfl⟩
          have hcw : IntKind.u64.wrap (cv : Int) = (cv : Int) := IntWalk.u64_in _ (by omega)
          have hnw : IntKind.u64.wrap ((nx : Int) + (cv : Int)) = (pe : Int) := by rw [IntWalk.u64_in _ (by omega)]; omega
          have HPE := Lib.hid hpe
          clear hpe
          obtain ⟨w6, hw6⟩ : ∃ w6, w6 = w5 := ⟨_, rfl⟩
          subst hw6
          obtain ⟨J, hJ⟩ : ∃ J, J = min (cv : Int).toNat 4 := ⟨_, rfl⟩
          obtain ⟨p0, hp0⟩ : ∃ p0, p0 = nx + (cv : Int).toNat - min (cv : Int).toNat 4 := ⟨_, rfl⟩
          obtain ⟨TN, hTN⟩ : ∃ TN, TN = tkK (nx + (cv : Int).toNat - min (cv : Int).toNat 4) T Ls (min (cv : Int).toNat 4) := ⟨_, rfl⟩
          have HND := Lib.hid (pw_nodup hls.out.1)
          have HBK : Hid (∀ s, bk TN s = if s ∈ Ls then (dsc p0 J ++ bk T s).take 4 else bk T s) := by
            show ∀ s, _
            rw [hTN, hp0, hJ]
            exact fun s => bk_rounds HND.out (fun s => htk.out.bkl s) s _
          have HTN : Hid (TkOk ((i + 1) * 64) TN) := by
            have h1 := htk.out.rounds (p := p0) (ss := Ls) J
            rw [hp0, hJ, ← hTN, HLEN.out] at h1
            refine ⟨Nat.le_trans h1.1 ?_, h1.2⟩
            have h2 : min (cv : Int).toNat 4 * nq ≤ 4 * 16 := Nat.mul_le_mul (Nat.min_le_right _ _) hnq
            omega
          have HO6 : Hid (OLk w6 tb At' nt' ct' TN) := by show OLk _ _ _ _ _ TN; rw [hTN]; exact HO5.out
          have HU6 : Hid (Blk w6 gu 60 (unV 1 1 false gm 0 (.pointer none) pe At' nt' ct')) := by show Blk _ _ _ (unV 1 1 false gm 0 (.pointer none) pe At' nt' ct'); rw [HPE.out]; exact HU5.out
          have HJ : Hid (J = min cv 4) := by show J = _; rw [hJ, Int.toNat_natCast]
          have HP0 : Hid (p0 + J = pe) := by show _ = _; rw [hp0, hJ, HPE.out, Int.toNat_natCast]; omega
          have HT60 : Hid (TArr w6 gt (fun s => if s ∈ Ls.take 0 then bk TN s else bk T s)) := HT5.out.cong (fun s => by simp)
          have HT6 := HT5
          have HQL : Hid (gq < wq.heap.size) := (show Blk wq gq 40 _ from hkq.out).lt
          clear hJ hp0 hTN HO5 HU5 HT5
          go_wp2_with fail
          go_loopw [14] (fun v14 wr => ∃ (r : Nat), r ≤ nq ∧ v14 = .int .i64 (r : Int) ∧ Hid (TArr wr gt (fun s => if s ∈ Ls.take r then bk TN s else bk T s)) ∧ Hid (Chg (fun kk => kk = gt) w6 wr)) (fun v14 _ => nq - (intOf v14).toNat)
          case atStart => exact ⟨0, by omega, rfl, HT60.out, Chg.refl _ _⟩
          case round =>
            clear HT60 hq4 hq6 ha0 ha3 ha7
            obtain ⟨r, hr, rfl, htr, hcr⟩ := hrel
            have HNT : Hid (∀ kk, kk = gt → kk < w6.heap.size → ¬ False ∧ ∀ cs t, w6.heap[kk]? = some (.cells cs t (0, 0)) → ¬ T64 t ∧ t ≠ 44) := fun kk hk _ => ⟨fun h => h, fun cs' t' h' => by
              subst hk
              obtain ⟨cur, h1, _⟩ := HT6.out
              obtain rfl := blk_type h1 h'
              exact ⟨by unfold T64; decide, by decide⟩⟩
            have KAR := Lib.hid (chB (show Blk w6 ga 40 _ from KA5.out) hcr.out (by have h1 := HZ4.out; have h2 := HGTQ.out; have h3 := HQL.out; show ¬ ga = gt; omega))
            have ha7 := (show Blk wr ga 40 _ from KAR.out).cell 7
            by_cases hrn : r < nq
            case neg =>
              obtain rfl : r = nq := by omega
              have hd : decide ((r : Int) < (r : Int)) = false := by simp
              have HUR := Lib.hid (chB (show Blk w6 gu 60 _ from HU6.out) hcr.out (by have h2 : gu < gt := HUT; show ¬ gu = gt; omega))
              have HOR := Lib.hid (OL.chg HO6.out hcr.out HNT.out)
              have HBR : Hid (Below w.heap.size w wr) := by
                have h1 := stepB hbel.out hbq.out
                have h2 := bchg h1 HC5.out h1.size (fun kk e => by subst e; rw [HGU.out]; omega)
                exact bchg h2 hcr.out h2.size (fun kk e => by subst e; have h3 : gu < kk := HUT; have := HGU.out; omega)
              have HTR : Hid (TArr wr gt (bk TN)) := htr.out.cong (fun s => by
                rw [List.take_of_length_le (Nat.le_of_eq HLEN.out)]
                split
                · rfl
                · rename_i h; rw [HBK.out, if_neg h])
              have hin2 : IntKind.i64.wrap ((i : Int) + 1) = ((i + 1 : Nat) : Int) := by rw [IntWalk.i64_in _ (by omega)]; omega
              go_wp2_with fail
              clear ha7
              go_roundw
              case rel => exact ⟨i + 1, pe, At', nt', ct', TN, by omega, rfl, by go_num, by have := HPE.out; omega, HUR.out, HOR.out, HTN.out, HTR.out, HBR.out, by show tb ≤ wr.heap.size; have h1 := htb.out; have h2 := hbq.out.size; have h3 := HC5.out.size; have h4 := hcr.out.size; omega⟩
              case measure => clear hin2; simp [intOf]; omega
            case pos =>
              obtain ⟨s, hs⟩ : ∃ s, Ls[r]? = some s := ⟨_, List.getElem?_eq_getElem (by have := HLEN.out; omega)⟩
              have hs64 : s < 64 := by have := hls.out.2 s (List.mem_of_getElem? hs); omega
              have HLR := Lib.hid (OL.chg HL5.out hcr.out HNT.out)
              obtain ⟨bl, ol, x, A6, c6, hAl, hbl, hx, g0, g1, hb6, _⟩ := lnk_at (OL.sl HLR.out) hrn
              have hxe : x = (s, bk T s) := by
                rw [List.getElem?_map, hs] at hx
                injection hx with hx
                exact hx.symm
              subst hxe
              subst hAl
              have HQR := Lib.hid (chS HQS5.out hcr.out (fun kk hk e => by have h1 := (hrow.out.lt kk hk.symm).1; have := HGTQ.out; omega))
              obtain ⟨bz, oz, y2, hAq, hbz, hy2, g2, _⟩ := u64_at HQR.out.1 hrn
              have hye : y2 = s := by rw [hs] at hy2; injection hy2 with h; exact h.symm
              subst hye
              obtain ⟨cur, hgt1, hgt2, hgt3⟩ := htr.out
              obtain ⟨At2, nt2, ct2, hcs, hts⟩ := hgt3 y2 hs64
              subst hAq
              obtain ⟨s, hse⟩ : ∃ s, s = y2 := ⟨_, rfl⟩
              subst hse
              have hnin : ¬ s ∈ Ls.take r := fun h => by
                obtain ⟨j, hj, he⟩ := List.mem_iff_getElem.1 h
                rw [List.length_take] at hj
                rw [List.getElem_take] at he
                obtain ⟨h2, h3⟩ := List.getElem?_eq_some_iff.1 hs
                have h4 := List.pairwise_iff_getElem.1 hls.out.1 j r (by omega) h2 (by omega)
                omega
              simp only [if_neg hnin] at hts
              have HTS : Hid (Sl rpU64 wr (Tb T64 (fun _ => False) wr) At2 nt2 ct2 (bk T s)) := ⟨hts, fun kk hk => hk.1⟩
              have HBL6 := Lib.hid (show Sl rpU64 wr _ A6 (bk T s).length c6 (bk T s) from ⟨hb6, fun kk hk => hk⟩)
              have HGT1 := Lib.hid hgt1
              have HGT2 := Lib.hid hgt2
              have HGT3 := Lib.hid hgt3
              have HCS := Lib.hid hcs
              have HSL := Lib.hid hs
              have HNI := Lib.hid hnin
              have hct : ∀ qq : Gr wr.heap.size wr, Calls Try.prog 8 #[.agg (lkV s A6 (bk T s).length c6), .agg (lkV s At2 nt2 ct2)] qq.val fun en w' => en = .returned (.bool true) ∧ Below qq.val.heap.size qq.val w' := fun qq => by
                have h1 := one_any (s := s) (s' := s) (keepS HBL6.out qq.is).1 (keepS HTS.out qq.is).1 (keepS HBL6.out qq.is).2 (keepS HTS.out qq.is).2
                rw [dec_true rfl] at h1
                exact h1
              have HCT := Lib.hid hct
              have hblz := HQR.out.2 _ hbz
              have hd : decide ((r : Int) < (nq : Int)) = true := by simp; omega
              have hr0 : (0 : Int) ≤ (r : Int) := by omega
              have hr1 : (r : Int) < (nq : Int) := by omega
              have hs0 : (0 : Int) ≤ (s : Int) := by omega
              have hs1 : (s : Int) < 64 := by omega
              have KQR := Lib.hid (chB (show Blk w6 gq 40 (msV (qM i cv Ls) { hdZa with A1 := some ⟨bz, oz, none⟩, n1 := nq, c1 := cq }) from K5.out) hcr.out (by have h2 := HGTQ.out; show ¬ gq = gt; omega))
              have p0 : ∀ qq : Gr wr.heap.size wr, qq.val.cell? ⟨bl, ol + r * 2, none⟩ = some (.int .u64 (s : Int)) := fun qq => (qq.is.cell (p := ⟨bl, ol + r * 2, none⟩) hbl).trans g0
              have p1 : ∀ qq : Gr wr.heap.size wr, qq.val.cell? ⟨bl, ol + r * 2 + 1, none⟩ = some (.slice A6 (bk T s).length c6) := fun qq => (qq.is.cell (p := ⟨bl, ol + r * 2 + 1, none⟩) hbl).trans g1
              have p2 : ∀ qq : Gr wr.heap.size wr, qq.val.cell? ⟨bz, oz + r, none⟩ = some (.int .u64 (s : Int)) := fun qq => (qq.is.cell (p := ⟨bz, oz + r, none⟩) hblz).trans g2
              have p3 : ∀ qq : Gr wr.heap.size wr, qq.val.cell? ⟨gt, s, none⟩ = some (.slice At2 nt2 ct2) := fun qq => ((keepB HGT1.out qq.is).cell s).trans hcs
              have p4 : ∀ qq : Gr wr.heap.size wr, qq.val.cell? ⟨ga, 7, none⟩ = some (.slice (some ⟨bl, ol, none⟩) nq cl) := fun qq => (keepB (show Blk wr ga 40 _ from KAR.out) qq.is).cell 7
              have p5 : ∀ qq : Gr wr.heap.size wr, qq.val.cell? ⟨gq, 6, none⟩ = some (.slice (some ⟨bz, oz, none⟩) nq cq) := fun qq => (keepB (show Blk wr gq 40 _ from KQR.out) qq.is).cell 6
              clear hs hy2 hgt1 hgt2 hgt3 hcs hts hnin hct hb6 g2 g1
              go_upto_region 25 with (fail)
              refine wp_region_grow (by kernel_rfl) (by kernel_rfl) wr.heap.size ?_
              repeat (quiet_step (((go_at_call 8; exact Gr.call _ (Nat.le_refl _) (HCT.out _)))))
              refine wpQuiet_nil ?_
              rintro w7 ⟨⟨_, hb7⟩, rfl⟩
              have ha3 := (keepB (show Blk wr ga 40 _ from KAR.out) hb7).cell 3
              have HB7 := Lib.hid hb7
              clear p0 p1 p2 p3 p4 p5 ha7 g0 hb7
              obtain ⟨wo, hwo⟩ : ∃ wo, wo = wr := ⟨_, rfl⟩
              subst hwo
              go_wp2_with fail
              go_loopw [16, 17] (fun v16 v17 wr => ∃ (j x : Nat) (Ac : Option Addr) (cc : Nat), j ≤ J ∧ x ≤ 13000 ∧ Hid (x + j = pe) ∧ v16 = .slice Ac j cc ∧ v17 = .int .u64 (x : Int) ∧ Hid (wr.ownsRow w7.heap.size 29 1 (.slice Ac j cc) j (((dsc p0 J).take j).map uv)) ∧ Hid (Below w7.heap.size w7 wr)) (fun _ v17 _ => (intOf v17).toNat)
              case atStart => exact ⟨0, pe, none, 0, by omega, by have := HPE.out; omega, rfl, rfl, rfl, World.ownsRow_nil _ _ _ _, Below.refl _ _⟩
              case round =>
                obtain ⟨wl, hwl⟩ : ∃ wl, wl = wr := ⟨_, rfl⟩
                subst hwl
                obtain ⟨j, x, Ac, cc, hj, hx13, hxe, rfl, rfl, hrw, hb8⟩ := hrel
                have hal3 := (hb8.out.cell (p := ⟨ga, 3, none⟩) (by have h1 := (show Blk wo ga 40 _ from KAR.out).lt; have h2 := HB7.out.size; show ga < w7.heap.size; omega)).trans ha3
                obtain ⟨cb, hcb⟩ : ∃ cb : Bool, cb = (decide (nx < x) && decide (j < 4)) := ⟨_, rfl⟩
                have HCB := Lib.hid hcb
                have hg1 : decide ((x : Int) > (nx : Int)) = decide (nx < x) := by
                  by_cases h : nx < x
                  · simp [h]
                  · simp [h]
                have hg2 : decide ((nx : Int) < (x : Int)) = decide (nx < x) := hg1
                go_upto_region 29 with (fail)
                go_cut [150] (fun v150 wx => v150 = .bool cb ∧ wx = wl)
                case first =>
                  by_cases h1 : nx < x
                  case neg =>
                    have h1b : decide (nx < x) = false := by simp; omega
                    rw [h1b] at hcb hg1 hg2
                    simp only [Bool.false_and] at hcb
                    subst hcb
                    go_wp2_with fail
                    go_meet
                    exact ⟨by first | rfl | simp, rfl⟩
                  case pos =>
                    have h1b : decide (nx < x) = true := by simp; omega
                    rw [h1b] at hcb hg1 hg2
                    simp only [Bool.true_and] at hcb
                    have hd3 : decide ((j : Int) < 4) = cb := by rw [hcb]; by_cases h3 : j < 4 <;> simp [h3] <;> omega
                    have hd3b : decide (j < 4) = cb := hcb.symm
                    clear hcb
                    go_wp2_with fail
                    go_meet
                    exact ⟨by first | rfl | simp [hd3b] | simp [hd3], rfl⟩
                case rest =>
                obtain ⟨rfl, hwc⟩ := hcut
                subst hwc
                obtain ⟨wl, hwl⟩ : ∃ wl, wl = wc := ⟨_, rfl⟩
                subst hwl
                clear hcb hg1 hg2 hal3
                cases cb
                case true =>
                  have hc := HCB.out.symm
                  rw [Bool.and_eq_true, decide_eq_true_iff, decide_eq_true_iff] at hc
                  obtain ⟨hcx, hcj⟩ := hc
                  have hjJ : j < J := by have h1 := hxe.out; have h2 := HPE.out; have h3 := HJ.out; rw [h3]; omega
                  obtain ⟨x1, hx1⟩ : ∃ x1, x1 = x - 1 := ⟨_, rfl⟩
                  have hxw : IntKind.u64.wrap ((x : Int) - 1) = (x1 : Int) := by rw [IntWalk.u64_in _ (by omega)]; omega
                  have HX1 : Hid (x1 + 1 = x) := by show _ = _; omega
                  clear hx1
                  have hla := hrw.out.alloc (.cells #[.int .u64 (x1 : Int)] 29)
                  have HLA := Lib.hid hla
                  have HBA := Lib.hid (stepB hb8.out (below1 wl (.cells #[.int .u64 (x1 : Int)] 29)))
                  have hmx : j + 1 ≤ maxLen := by unfold maxLen; omega
                  have hsz := hb8.out.size
                  clear hla
                  go_wp2_with
                    (first
                     | (at_builtin; refine wpList_app rfl (.tmp 153) (.tmp 156) _ rfl elem64 rfl HLA.out rfl (Src.new wl (.int .u64 (x1 : Int)) _ rfl) hmx (by omega) (by simp; omega) ?_; intro A3 c3 w9 ho9 hg9 hat9
                        have HO9 := Lib.hid ho9
                        have HB9 := Lib.hid (HBA.out.grown hg9 HBA.out.size (fun q hq => (HLA.out.lt q hq).1))
                        clear ho9 hg9 hat9))
                  go_roundw
                  case rel => exact ⟨j + 1, x1, A3, c3, by omega, by have := HX1.out; omega, by show x1 + (j + 1) = pe; have h1 := HX1.out; have h2 := hxe.out; omega, rfl, rfl, by
                    rw [dsc_take hjJ, List.map_append, show p0 + J - 1 - j = x1 by have h1 := HX1.out; have h2 := hxe.out; have h3 := HP0.out; omega]
                    exact HO9, HB9⟩
                  case measure => clear hxw hmx; have h1 := HX1.out; simp [intOf]; omega
                case false =>
                  have hjJ : J = j := by
                    have hc := HCB.out.symm
                    have h1 := hxe.out; have h2 := HPE.out; have h3 := HJ.out
                    rcases Nat.lt_or_ge j J with h | h
                    · rw [Bool.and_eq_false_iff, decide_eq_false_iff_not, decide_eq_false_iff_not] at hc
                      omega
                    · omega
                  have hro : wl.ownsRow w7.heap.size 29 1 (.slice Ac j cc) j ((dsc p0 J).map uv) := by
                    have h := hrw.out
                    rw [List.take_of_length_le (by rw [dsc_len]; omega)] at h
                    exact h
                  have HRO := Lib.hid hro
                  have HJJ := Lib.hid hjJ
                  clear hjJ hro HCB hrw
                  have HBO := Lib.hid (stepB HB7.out hb8.out)
                  have HG1 := Lib.hid (keepB HGT1.out HBO.out)
                  have hcl : wl.cell? ⟨gt, s, none⟩ = some (.slice At2 nt2 ct2) := (HG1.out.cell s).trans HCS.out
                  have HSR := Lib.hid (Src.u64 (keepS HTS.out HBO.out).1)
                  have HN2 : Hid ((bk T s).length = nt2) := (Rp.sl_len HTS.out.1).1
                  have hn2 : nt2 ≤ 4 := by have h1 := htk.out.bkl s; have h2 := HN2.out; omega
                  have hj4 : j ≤ 4 := by have h1 := HJ.out; have h2 := HJJ.out; omega
                  have hmx : j + nt2 ≤ maxLen := by unfold maxLen; omega
                  have hsz := hb8.out.size
                  go_upto_region 33 with
                    (first
                     | (at_builtin; refine wpList_app rfl (.tmp 158) (.tmp 161) _ rfl elem64 rfl HRO.out rfl HSR.out hmx (by omega) hsz ?_; intro A9 c9 w9 ho9 hg9 hat9
                        have HO9 := Lib.hid ho9
                        have hb9 := HBO.out.grown hg9 HBO.out.size (fun q hq => Nat.le_trans HB7.out.size (HRO.out.lt q hq).1)
                        have HB9 := Lib.hid hb9
                        have HK9 := Lib.hid (HG1.out.grown hg9 (fun e => by have h1 := (HRO.out.lt gt e.symm).1; have h2 := HGT1.out.lt; have h3 := HB7.out.size; omega))
                        clear ho9 hg9 hat9 hb9))
                  obtain ⟨L9, hL9⟩ : ∃ L9, L9 = j + nt2 := ⟨_, rfl⟩
                  have ho9 := HO9.out
                  rw [← List.map_append] at ho9
                  rw [← hL9] at ho9 ⊢
                  have HL9 := Lib.hid hL9
                  have HR9 : Hid (rpU64.sl w9 (fun kk => some kk = (Value.slice A9 L9 c9).ownBlock) A9 L9 c9 (dsc p0 J ++ bk T s)) := own_u64 ho9 (fun x hx => by
                    rcases List.mem_append.1 hx with h | h
                    · obtain ⟨q, hq⟩ := List.getElem?_of_mem h
                      have h1 : q < J := by
                        have := (List.getElem?_eq_some_iff.1 hq).1
                        rw [dsc_len] at this; exact this
                      rw [dsc_at p0 J q h1] at hq
                      injection hq with hq
                      have h2 := HP0.out; have h3 := HPE.out
                      omega
                    · exact u64_lt HTS.out.1 x h)
                  obtain ⟨N, hN⟩ : ∃ N, N = min L9 4 := ⟨_, rfl⟩
                  obtain ⟨AN, hrun, hslN⟩ := run_cut_h elem64 HR9.out rfl (N : Int) (by omega) (by omega)
                  rw [show ((N : Int)).toNat = N from Int.toNat_natCast N] at hrun hslN
                  rw [show (N : Int) = min (L9 : Int) 4 by omega] at hrun
                  have HSN := Lib.hid hslN
                  have HN4 := Lib.hid hN
                  have z9 := (HK9.out.cell s).trans HCS.out
                  have zf9 := HK9.out.frozen s
                  clear hL9 ho9 hN hslN hcl
                  go_wp2_with fail
                  have HTB9 : Hid (rpU64.sl w9 (Tb T64 (fun _ => False) w9) AN N c9 ((dsc p0 J ++ bk T s).take N)) := Rp.sl_more HSN.out (fun kk hk => by
                    have h1 := HO9.out
                    rw [← HL9.out] at h1
                    obtain ⟨cs', hcs'⟩ := own_typeU h1 hk.symm
                    exact ⟨(h1.lt kk hk.symm).2, .inr ⟨cs', _, hcs', rfl⟩⟩)
                  have HTP := Lib.hid (TArr.put HK9.out HGT2.out (fun s' hs' => by
                    obtain ⟨A', n', c', h4, h5⟩ := HGT3.out s' hs'
                    exact ⟨A', n', c', h4, tb_belowU h5 HB9.out⟩) hs64 HTB9.out)
                  go_roundw
                  case rel =>
                    refine ⟨r + 1, by omega, by go_num, HTP.out.cong (fun s' => ?_), hcr.out.trans ((Chg.of_pure HB9.out _).trans ((Chg.refl (fun k => k = gt) w9).setCell (p := ⟨gt, s, none⟩) (.inl rfl) _))⟩
                    have htk1 : Ls.take (r + 1) = Ls.take r ++ [s] := by rw [List.take_add_one, HSL.out]; rfl
                    rw [htk1]
                    by_cases he : s' = s
                    · subst he
                      rw [if_pos rfl, if_pos (List.mem_append_right _ (List.mem_singleton_self _)), HBK.out, if_pos (List.mem_of_getElem? HSL.out)]
                      have hlen : (dsc p0 J ++ bk T s').length = L9 := by rw [List.length_append, dsc_len, HN2.out, HL9.out, HJJ.out]
                      rw [← take_minlen, hlen, ← HN4.out]
                    · rw [if_neg he]
                      by_cases h : s' ∈ Ls.take r
                      · rw [if_pos h, if_pos (List.mem_append_left _ h)]
                      · rw [if_neg h, if_neg (fun h' => by
                          rcases List.mem_append.1 h' with h' | h'
                          · exact h h'
                          · exact he (List.mem_singleton.1 h'))]
                  case measure => simp [intOf]; omega
end
end Go.Proofs.Ytnihaaifkogpbaa
/- TalkTakes: the walk, at arguments as they are opened. -/
namespace Go.Proofs.Ytnihaaifkogpbaa
open Go.ChangeShapes Go.WideShapes Go.ChangeAt Go.RowKit
set_option linter.unusedVariables false
theorem talkTakes_law (A : Option Addr) (n c : Nat) (l : List Nat) (A2 : Option Addr) (n2 c2 : Nat) (l2 : List Nat) (w : World) (h : rpU16.sl w (lt w.heap.size) A n c l) (h2 : rpU64.sl w (lt w.heap.size) A2 n2 c2 l2) :
    Calls Try.prog 3 #[.slice A n c, .slice A2 n2 c2] w fun e w' => e = .returned (.bool true) ∧ Below w.heap.size w w' :=
  talkTakes_any h (fun _ h => h) h2 (fun _ h => h)
end Go.Proofs.Ytnihaaifkogpbaa
/-
  'tholepinlaw30.TalkTakes' returns true for every input, and each argument reads behind the call as it read before. No condition.
-/
namespace Go.Proofs.Ytnihaaifkogpbaa.talkTakes
open Go.ChangeShapes Go.WideShapes Go.ChangeAt Go.RowKit
open Go.ChangeMaps (open_string shut_string)
set_option linter.unusedVariables false

theorem own : ownKnob Try.prog.godebug = none := by kernel_rfl
theorem laidOut : laidOutB Try.prog = true := by kernel_rfl

set_option maxRecDepth 100000 in
theorem lifted (os : Os) (started : os.Started) (H : Type) (enc : TypeId × Value → H) :
    ReturnsInHanded {} Try.checked os 3 .any (Rows.talkTakesSpec.pre6 enc Try.prog Try.f3 Rows.talkTakesRow.domain false) (Rows.talkTakesSpec.post enc Try.prog Try.f3 false true false false) := by
  refine returnsInHanded_of_change (C := Try.checked) own started (by kernel_rfl) Try.func3
    (ChangeSpec.witness6 (enc := enc) (C := Try.checked) false ⟨#[], #[.slice none 0 0, .slice none 0 0], []⟩ 8 (by kernel_rfl) (by kernel_rfl) (by kernel_rfl) (by kernel_rfl)) ?_
  intro W base args ds gs before hval0 hW hcnd _
  have hval : ∀ (j : Nat) t v, Try.f3.params[j]? = some t → args[j]? = some v → Value.okWide Try.prog W .any base t v := hval0
  have hW' := hW
  obtain ⟨p, q, hA0, hV, rfl, hfz, hnd⟩ := hW
  have hA : DataW.TrodAll enc Try.prog W 0 (fun _ => true) true Try.f3.params.toList args.toList ds p := hA0
  rw [Try.params3] at hA hval
  obtain ⟨v0, vs0, d0, ds0, p0, q0, hargs, rfl, rfl, h0, r0⟩ := trodAll_cons hA
  obtain ⟨v1, vs1, d1, ds1, p1, q1, rfl, rfl, rfl, h1, r1⟩ := trodAll_cons r0
  obtain ⟨rfl, rfl, rfl⟩ := trodAll_nil r1
  obtain rfl : args = #[v0, v1] := by cases args; simp_all
  obtain ⟨rfl, rfl⟩ := trodVars_none hV
  have k0 := h0
  have lt0 : ∀ x ∈ p0, x.block < W.heap.size := by obtain ⟨m, hm⟩ := k0; exact DataW.trod_lt m _ _ _ hm
  obtain ⟨a0, len0, cap0, rfl⟩ := okWide_slice Try.underlying22 (hval 0 22 v0 rfl rfl)
  obtain ⟨l0, w0⟩ : ∃ l, (rpU16).sl W (lt W.heap.size) a0 len0 cap0 l := by
    obtain ⟨fuel, hf⟩ := h0
    obtain ⟨l, hl⟩ := (opens_slice Try.underlying22 (opens_u16 Try.underlying31) (by kernel_rfl) (by decide)) H enc W _ fuel _ _ hf
    exact ⟨l, hl⟩
  have k1 := h1
  have lt1 : ∀ x ∈ p1, x.block < W.heap.size := by obtain ⟨m, hm⟩ := k1; exact DataW.trod_lt m _ _ _ hm
  obtain ⟨a1, len1, cap1, rfl⟩ := okWide_slice Try.underlying23 (hval 1 23 v1 rfl rfl)
  obtain ⟨l1, w1⟩ : ∃ l, (rpU64).sl W (lt W.heap.size) a1 len1 cap1 l := by
    obtain ⟨fuel, hf⟩ := h1
    obtain ⟨l, hl⟩ := (opens_slice Try.underlying23 (opens_u64 Try.underlying29) (by kernel_rfl) (by decide)) H enc W _ fuel _ _ hf
    exact ⟨l, hl⟩
  clear hA0 hval0
  refine (talkTakes_law a0 len0 cap0 l0 a1 len1 cap1 l1 W w0 w1).mono fun e W' ⟨he, bel⟩ => ?_
  subst he
  exact ⟨_, rfl, _, _, _, [], _, [], hW', trodAll_mk1 (shut_bool Try.underlying4 _), (trodAll_cons_mk (Below.trod laidOut (by kernel_rfl) (of_decide_eq_true (by kernel_rfl)) k0 bel lt0) (trodAll_cons_mk (Below.trod laidOut (by kernel_rfl) (of_decide_eq_true (by kernel_rfl)) k1 bel lt1) trodAll_mk0)), rfl, bel.frame _, fun h => by cases h⟩

theorem over : Rows.talkTakesRow.holds Try.pinned (OpenSpec.ofChange Rows.talkTakesSpec) :=
  OpenClaim.holds_of_wide 3 Try.f3 rfl rfl rfl rfl rfl rfl rfl ⟨rfl, rfl, rfl, rfl, rfl⟩ rfl rfl rfl rfl rfl (by kernel_rfl) Try.func3 (by kernel_rfl)
    (of_decide_eq_true (by kernel_rfl)) (by unfold Func.isWrapper; first | (rw [if_pos (by decide +kernel)]; kernel_rfl) | (rw [if_neg (by decide +kernel)]; exact ⟨rfl, rfl⟩))
    (fun os started H enc _ => lifted os started H enc)

theorem proved : Rows.TalkTakesSaid := over
#print axioms proved
end Go.Proofs.Ytnihaaifkogpbaa.talkTakes
