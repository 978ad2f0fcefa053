/- SeekMatches. -/
import Derived.Test.YtkffgmpkpafkmaaSkL
import Derived.BigQuiet
namespace Go.Proofs.Ytkffgmpkpafkmaa
open Go.ChangeShapes Go.WideShapes Go.ChangeAt Go.RowKit Go.Maps
set_option linter.unusedVariables false
section
variable {D : Dom} {A : Option Addr} {n c : Nat} {l : List UInt8} {w : World}
set_option maxRecDepth 100000 in
set_option maxHeartbeats 4000000 in
theorem skm_long (p0 p1 t0 t1 : Int) (hcm : c ≤ 2 ^ 63 - 1) (hnc : n ≤ c) (hlen : 300 < n) :
    Calls Try.prog 7 #[.slice A n c, .agg #[.int .i64 p0, .int .i64 p1], .agg #[.int .i64 t0, .int .i64 t1]] w fun e w' => e = .returned (.bool true) ∧ Below w.heap.size w w' := by
  have hd : decide ((300 : Int) < (n : Int)) = true := by simp; omega
  have HB := Lib.hid (show Below w.heap.size w ((w.alloc (.cells #[.int .i64 p0, .int .i64 p1] 28)).alloc (.cells #[.int .i64 t0, .int .i64 t1] 28)) from ((Below.refl _ _).alloc (Nat.le_refl _) _).alloc (by simp) _)
  go_enter Try.func7, Try.ntmps7
  go_wp2_with fail
  refine (sklive_any _).mono ?_; rintro e w1 ⟨rfl, hb⟩
  go_wp2_with fail
  go_ret
  exact ⟨rfl, HB.out.trans (hb.mono HB.out.size)⟩
set_option maxRecDepth 100000 in
set_option maxHeartbeats 4000000 in
theorem skm_ok (p0 p1 t0 t1 : Int) (hl : rpU8.sl w D A n c l) (hD : ∀ k, D k → k < w.heap.size) (hn300 : n ≤ 300) (a0 : -9223372036854775808 ≤ p0) (a1 : p0 ≤ 9223372036854775807) (a2 : -9223372036854775808 ≤ p1) (a3 : p1 ≤ 9223372036854775807) :
    Calls Try.prog 7 #[.slice A n c, .agg #[.int .i64 p0, .int .i64 p1], .agg #[.int .i64 t0, .int .i64 t1]] w fun e w' => e = .returned (.bool true) ∧ Below w.heap.size w w' := by
  have hd : decide ((300 : Int) < (n : Int)) = false := by simp; omega
  have hb0 : Below w.heap.size w ((w.alloc (.cells #[.int .i64 p0, .int .i64 p1] 28)).alloc (.cells #[.int .i64 t0, .int .i64 t1] 28)) := ((Below.refl _ _).alloc (Nat.le_refl _) _).alloc (by simp) _
  have HK0 := Lib.hid (show Blk ((w.alloc (.cells #[.int .i64 p0, .int .i64 p1] 28)).alloc (.cells #[.int .i64 t0, .int .i64 t1] 28)) w.heap.size 28 #[.int .i64 p0, .int .i64 p1] from (Blk.new w _ _).alloc _)
  have HK1 := Lib.hid (show Blk ((w.alloc (.cells #[.int .i64 p0, .int .i64 p1] 28)).alloc (.cells #[.int .i64 t0, .int .i64 t1] 28)) (w.heap.size + 1) 28 #[.int .i64 t0, .int .i64 t1] from Blk.newAt (size_alloc _ _) _ _)
  have HL := Lib.hid hl
  have HD := Lib.hid hD
  have HB0 := Lib.hid hb0
  have HBT := Lib.hid (fun x : World => better_any (w := x) p1 t0 p0 t1)
  have hcase : (decide (t1 < t0) = true ∧ btB p1 t0 p0 t1 = true) ∨ (decide (t1 < t0) = false ∧ (t0 == t1) = false ∧ btB p1 t0 p0 t1 = false) ∨ (decide (t1 < t0) = false ∧ (t0 == t1) = true ∧ decide (p1 < p0) = true ∧ btB p1 t0 p0 t1 = true) ∨ (decide (t1 < t0) = false ∧ (t0 == t1) = true ∧ decide (p1 < p0) = false ∧ btB p1 t0 p0 t1 = false) := by
    unfold btB
    by_cases h1 : t1 < t0 <;> by_cases h2 : t0 = t1 <;> by_cases h3 : p1 < p0 <;> simp [h1, h2, h3]
    all_goals (try omega)
  have hmat : ∀ x, Below w.heap.size w x → Calls Try.prog 24 #[.slice A n c, .int .i64 p0, .int .i64 p1] x fun e w' => e = .returned (.int .i64 (mat l p0 p1 : Int)) ∧ Below x.heap.size x w' := fun x hb => match_any p0 p1 (Rp.sl_below hl hb hD) (fun k hk => Nat.lt_of_lt_of_le (hD k hk) hb.size) (by omega) a0 a1 a2 a3
  have hrmat : ∀ x, Below w.heap.size w x → Calls Try.prog 25 #[.slice A n c, .int .i64 p0, .int .i64 p1] x fun e w' => e = .returned (.int .i64 (mat l p0 p1 : Int)) ∧ Below x.heap.size x w' := fun x hb => rmatch_any p0 p1 (Rp.sl_below hl hb hD) (fun k hk => Nat.lt_of_lt_of_le (hD k hk) hb.size) (by omega) a0 a1 a2 a3
  obtain ⟨mv, hmv⟩ : ∃ mv, mv = mat l p0 p1 := ⟨_, rfl⟩
  rw [← hmv] at hmat hrmat
  have HM := Lib.hid hmat
  have HRM := Lib.hid hrmat
  have hmm : ((mv : Int) == (mv : Int)) = true := by simp
  clear hl hD hb0 hmat hrmat hmv
  rcases hcase with ⟨q1, q2⟩ | ⟨q1, q2, q3⟩ | ⟨q1, q2, q3, q4⟩ | ⟨q1, q2, q3, q4⟩
  · rw [q2] at HBT
    clear q2
    go_enter Try.func7, Try.ntmps7
    go_wp2_with fail
    generalize (w.alloc (.cells #[.int .i64 p0, .int .i64 p1] 28)).alloc (.cells #[.int .i64 t0, .int .i64 t1] 28) = w0 at *
    have e0 : w0.cell? ⟨w.heap.size, 0, none⟩ = some (.int .i64 p0) := (show Blk _ _ _ _ from HK0.out).cell 0
    have e1 : w0.cell? ⟨w.heap.size, 1, none⟩ = some (.int .i64 p1) := (show Blk _ _ _ _ from HK0.out).cell 1
    go_quiet (fail)
    clear e0 e1
    have hd3 : Below w0.heap.size w0 (w0.drewN nq) := ⟨rfl, rfl, rfl, Nat.le_refl _, fun _ _ => rfl⟩
    have HB3 := Lib.hid (HB0.out.trans (hd3.mono HB0.out.size))
    have HK3 := Lib.hid (Blk.below (show Blk _ _ _ _ from HK1.out) hd3 (show Blk _ _ _ _ from HK1.out).lt)
    clear hd3
    generalize w0.drewN nq = w3 at *
    have e2 : w3.cell? ⟨w.heap.size + 1, 0, none⟩ = some (.int .i64 t0) := (show Blk _ _ _ _ from HK3.out).cell 0
    have e3 : w3.cell? ⟨w.heap.size + 1, 1, none⟩ = some (.int .i64 t1) := (show Blk _ _ _ _ from HK3.out).cell 1
    go_wp2_with fail
    refine (HM.out _ HB3.out).mono ?_; rintro e w4 ⟨rfl, hb4⟩
    have HB4 := Lib.hid (HB3.out.trans (hb4.mono HB3.out.size))
    have HK4 := Lib.hid (Blk.below (show Blk _ _ _ _ from HK3.out) hb4 (show Blk _ _ _ _ from HK3.out).lt)
    clear e2 e3 hb4
    go_wp2_with fail
    refine (HRM.out _ HB4.out).mono ?_; rintro e w5 ⟨rfl, hb5⟩
    have HB5 := Lib.hid (HB4.out.trans (hb5.mono HB4.out.size))
    have HK5 := Lib.hid (Blk.below (show Blk _ _ _ _ from HK4.out) hb5 (show Blk _ _ _ _ from HK4.out).lt)
    clear hb5
    have e4 : w5.cell? ⟨w.heap.size + 1, 0, none⟩ = some (.int .i64 t0) := (show Blk _ _ _ _ from HK5.out).cell 0
    have e5 : w5.cell? ⟨w.heap.size + 1, 1, none⟩ = some (.int .i64 t1) := (show Blk _ _ _ _ from HK5.out).cell 1
    go_wp2_with fail
    refine (HBT.out _).mono ?_; rintro e w6 ⟨rfl, rfl⟩
    go_wp2_with fail
    refine (sklive_any _).mono ?_; rintro e w7 ⟨rfl, hb7⟩
    go_wp2_with fail
    go_ret
    exact ⟨rfl, HB5.out.trans (hb7.mono HB5.out.size)⟩
  · rw [q3] at HBT
    clear q3
    go_enter Try.func7, Try.ntmps7
    go_wp2_with fail
    generalize (w.alloc (.cells #[.int .i64 p0, .int .i64 p1] 28)).alloc (.cells #[.int .i64 t0, .int .i64 t1] 28) = w0 at *
    have e0 : w0.cell? ⟨w.heap.size, 0, none⟩ = some (.int .i64 p0) := (show Blk _ _ _ _ from HK0.out).cell 0
    have e1 : w0.cell? ⟨w.heap.size, 1, none⟩ = some (.int .i64 p1) := (show Blk _ _ _ _ from HK0.out).cell 1
    go_quiet (fail)
    clear e0 e1
    have hd3 : Below w0.heap.size w0 (w0.drewN nq) := ⟨rfl, rfl, rfl, Nat.le_refl _, fun _ _ => rfl⟩
    have HB3 := Lib.hid (HB0.out.trans (hd3.mono HB0.out.size))
    have HK3 := Lib.hid (Blk.below (show Blk _ _ _ _ from HK1.out) hd3 (show Blk _ _ _ _ from HK1.out).lt)
    clear hd3
    generalize w0.drewN nq = w3 at *
    have e2 : w3.cell? ⟨w.heap.size + 1, 0, none⟩ = some (.int .i64 t0) := (show Blk _ _ _ _ from HK3.out).cell 0
    have e3 : w3.cell? ⟨w.heap.size + 1, 1, none⟩ = some (.int .i64 t1) := (show Blk _ _ _ _ from HK3.out).cell 1
    go_wp2_with fail
    refine (HM.out _ HB3.out).mono ?_; rintro e w4 ⟨rfl, hb4⟩
    have HB4 := Lib.hid (HB3.out.trans (hb4.mono HB3.out.size))
    have HK4 := Lib.hid (Blk.below (show Blk _ _ _ _ from HK3.out) hb4 (show Blk _ _ _ _ from HK3.out).lt)
    clear e2 e3 hb4
    go_wp2_with fail
    refine (HRM.out _ HB4.out).mono ?_; rintro e w5 ⟨rfl, hb5⟩
    have HB5 := Lib.hid (HB4.out.trans (hb5.mono HB4.out.size))
    have HK5 := Lib.hid (Blk.below (show Blk _ _ _ _ from HK4.out) hb5 (show Blk _ _ _ _ from HK4.out).lt)
    clear hb5
    have e4 : w5.cell? ⟨w.heap.size + 1, 0, none⟩ = some (.int .i64 t0) := (show Blk _ _ _ _ from HK5.out).cell 0
    have e5 : w5.cell? ⟨w.heap.size + 1, 1, none⟩ = some (.int .i64 t1) := (show Blk _ _ _ _ from HK5.out).cell 1
    go_wp2_with fail
    refine (HBT.out _).mono ?_; rintro e w6 ⟨rfl, rfl⟩
    go_wp2_with fail
    refine (sklive_any _).mono ?_; rintro e w7 ⟨rfl, hb7⟩
    go_wp2_with fail
    go_ret
    exact ⟨rfl, HB5.out.trans (hb7.mono HB5.out.size)⟩
  · rw [q4] at HBT
    clear q4
    go_enter Try.func7, Try.ntmps7
    go_wp2_with fail
    generalize (w.alloc (.cells #[.int .i64 p0, .int .i64 p1] 28)).alloc (.cells #[.int .i64 t0, .int .i64 t1] 28) = w0 at *
    have e0 : w0.cell? ⟨w.heap.size, 0, none⟩ = some (.int .i64 p0) := (show Blk _ _ _ _ from HK0.out).cell 0
    have e1 : w0.cell? ⟨w.heap.size, 1, none⟩ = some (.int .i64 p1) := (show Blk _ _ _ _ from HK0.out).cell 1
    go_quiet (fail)
    clear e0 e1
    have hd3 : Below w0.heap.size w0 (w0.drewN nq) := ⟨rfl, rfl, rfl, Nat.le_refl _, fun _ _ => rfl⟩
    have HB3 := Lib.hid (HB0.out.trans (hd3.mono HB0.out.size))
    have HK3 := Lib.hid (Blk.below (show Blk _ _ _ _ from HK1.out) hd3 (show Blk _ _ _ _ from HK1.out).lt)
    clear hd3
    generalize w0.drewN nq = w3 at *
    have e2 : w3.cell? ⟨w.heap.size + 1, 0, none⟩ = some (.int .i64 t0) := (show Blk _ _ _ _ from HK3.out).cell 0
    have e3 : w3.cell? ⟨w.heap.size + 1, 1, none⟩ = some (.int .i64 t1) := (show Blk _ _ _ _ from HK3.out).cell 1
    go_wp2_with fail
    refine (HM.out _ HB3.out).mono ?_; rintro e w4 ⟨rfl, hb4⟩
    have HB4 := Lib.hid (HB3.out.trans (hb4.mono HB3.out.size))
    have HK4 := Lib.hid (Blk.below (show Blk _ _ _ _ from HK3.out) hb4 (show Blk _ _ _ _ from HK3.out).lt)
    clear e2 e3 hb4
    go_wp2_with fail
    refine (HRM.out _ HB4.out).mono ?_; rintro e w5 ⟨rfl, hb5⟩
    have HB5 := Lib.hid (HB4.out.trans (hb5.mono HB4.out.size))
    have HK5 := Lib.hid (Blk.below (show Blk _ _ _ _ from HK4.out) hb5 (show Blk _ _ _ _ from HK4.out).lt)
    clear hb5
    have e4 : w5.cell? ⟨w.heap.size + 1, 0, none⟩ = some (.int .i64 t0) := (show Blk _ _ _ _ from HK5.out).cell 0
    have e5 : w5.cell? ⟨w.heap.size + 1, 1, none⟩ = some (.int .i64 t1) := (show Blk _ _ _ _ from HK5.out).cell 1
    go_wp2_with fail
    refine (HBT.out _).mono ?_; rintro e w6 ⟨rfl, rfl⟩
    go_wp2_with fail
    refine (sklive_any _).mono ?_; rintro e w7 ⟨rfl, hb7⟩
    go_wp2_with fail
    go_ret
    exact ⟨rfl, HB5.out.trans (hb7.mono HB5.out.size)⟩
  · rw [q4] at HBT
    clear q4
    go_enter Try.func7, Try.ntmps7
    go_wp2_with fail
    generalize (w.alloc (.cells #[.int .i64 p0, .int .i64 p1] 28)).alloc (.cells #[.int .i64 t0, .int .i64 t1] 28) = w0 at *
    have e0 : w0.cell? ⟨w.heap.size, 0, none⟩ = some (.int .i64 p0) := (show Blk _ _ _ _ from HK0.out).cell 0
    have e1 : w0.cell? ⟨w.heap.size, 1, none⟩ = some (.int .i64 p1) := (show Blk _ _ _ _ from HK0.out).cell 1
    go_quiet (fail)
    clear e0 e1
    have hd3 : Below w0.heap.size w0 (w0.drewN nq) := ⟨rfl, rfl, rfl, Nat.le_refl _, fun _ _ => rfl⟩
    have HB3 := Lib.hid (HB0.out.trans (hd3.mono HB0.out.size))
    have HK3 := Lib.hid (Blk.below (show Blk _ _ _ _ from HK1.out) hd3 (show Blk _ _ _ _ from HK1.out).lt)
    clear hd3
    generalize w0.drewN nq = w3 at *
    have e2 : w3.cell? ⟨w.heap.size + 1, 0, none⟩ = some (.int .i64 t0) := (show Blk _ _ _ _ from HK3.out).cell 0
    have e3 : w3.cell? ⟨w.heap.size + 1, 1, none⟩ = some (.int .i64 t1) := (show Blk _ _ _ _ from HK3.out).cell 1
    go_wp2_with fail
    refine (HM.out _ HB3.out).mono ?_; rintro e w4 ⟨rfl, hb4⟩
    have HB4 := Lib.hid (HB3.out.trans (hb4.mono HB3.out.size))
    have HK4 := Lib.hid (Blk.below (show Blk _ _ _ _ from HK3.out) hb4 (show Blk _ _ _ _ from HK3.out).lt)
    clear e2 e3 hb4
    go_wp2_with fail
    refine (HRM.out _ HB4.out).mono ?_; rintro e w5 ⟨rfl, hb5⟩
    have HB5 := Lib.hid (HB4.out.trans (hb5.mono HB4.out.size))
    have HK5 := Lib.hid (Blk.below (show Blk _ _ _ _ from HK4.out) hb5 (show Blk _ _ _ _ from HK4.out).lt)
    clear hb5
    have e4 : w5.cell? ⟨w.heap.size + 1, 0, none⟩ = some (.int .i64 t0) := (show Blk _ _ _ _ from HK5.out).cell 0
    have e5 : w5.cell? ⟨w.heap.size + 1, 1, none⟩ = some (.int .i64 t1) := (show Blk _ _ _ _ from HK5.out).cell 1
    go_wp2_with fail
    refine (HBT.out _).mono ?_; rintro e w6 ⟨rfl, rfl⟩
    go_wp2_with fail
    refine (sklive_any _).mono ?_; rintro e w7 ⟨rfl, hb7⟩
    go_wp2_with fail
    go_ret
    exact ⟨rfl, HB5.out.trans (hb7.mono HB5.out.size)⟩
end
theorem seekMatches_sl (A : Option Addr) (n c : Nat) (l : List UInt8) (cs : Array Value) (x : Int × Int) (cs' : Array Value) (y : Int × Int) (w : World) (hl : rpU8.sl w (lt w.heap.size) A n c l) (hx : (rpPair rpInt rpInt).ok w (lt w.heap.size) x cs.toList) (hy : (rpPair rpInt rpInt).ok w (lt w.heap.size) y cs'.toList) :
    Calls Try.prog 7 #[.slice A n c, .agg cs, .agg cs'] w fun e w' => e = .returned (.bool true) ∧ Below w.heap.size w w' := by
  obtain ⟨p0, p1⟩ := x
  obtain ⟨t0, t1⟩ := y
  obtain ⟨v1, v2, hcs, ⟨rfl, a0, a1⟩, ⟨rfl, a2, a3⟩⟩ := hx
  obtain ⟨u1, u2, hcs', ⟨rfl, b0, b1⟩, ⟨rfl, b2, b3⟩⟩ := hy
  obtain rfl : cs = #[.int .i64 p0, .int .i64 p1] := by apply Array.toList_inj.1; rw [hcs]; rfl
  obtain rfl : cs' = #[.int .i64 t0, .int .i64 t1] := by apply Array.toList_inj.1; rw [hcs']; rfl
  obtain ⟨_, hnc, hcm⟩ := Rp.sl_len hl
  unfold maxLen at hcm
  by_cases h : n ≤ 300
  · exact skm_ok p0 p1 t0 t1 hl (fun k hk => hk) h a0 (by omega) a2 (by omega)
  · exact skm_long p0 p1 t0 t1 hcm hnc (by omega)
end Go.Proofs.Ytkffgmpkpafkmaa
