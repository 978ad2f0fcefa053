/- ref28.Right and ref29.Right. -/
import Derived.Test.YtlfieiiegokejaaTkB
import Derived.Test.YtlfieiiegokejaaTkW
namespace Go.Proofs.Ytlfieiiegokejaa
open Go.ChangeShapes Go.WideShapes Go.ChangeAt Go.RowKit
set_option linter.unusedVariables false
section
variable {D : Dom} {m : Ms} {h : Hd} {w : World}
set_option maxRecDepth 100000 in
set_option maxHeartbeats 8000000 in
theorem rbright_any (hm : MsIn w D m h) : Calls Try.prog 32 #[.agg (msV m h)] w fun e w' => e = .returned (.bool (dec (BOk m))) ∧ Below w.heap.size w w' := by
  have hb0 := below1 w (.cells (msV m h) 32)
  have HB := Lib.hid hb0
  have HK := Lib.hid (blk11 w 32 (msV m h))
  have HM := Lib.hid (hm.below hb0)
  have HN1 := Lib.hid (Rp.sl_len hm.ss).1
  have HN2 := Lib.hid (Rp.sl_len hm.ls).1
  have HN3 := Lib.hid (Rp.sl_len hm.dt).1
  have HN4 := Lib.hid (Rp.sl_len hm.pr).1
  clear hb0
  obtain ⟨H1, hH1⟩ : ∃ H, Kd.has m.kd 1 = H := ⟨_, rfl⟩
  obtain ⟨a1, ha1⟩ : ∃ a, dec (PosOk m.ps) = a := ⟨_, rfl⟩
  obtain ⟨b1, hb1⟩ : ∃ b, dec (m.ps = 0) = b := ⟨_, rfl⟩
  obtain ⟨q1, hq1⟩ : ∃ q, q = dec (part m.kd 1 (PosOk m.ps) (m.ps = 0)) := ⟨_, rfl⟩
  have HQ1 := Lib.hid (part_q hH1 ha1 hb1 hq1)
  have HD1 := Lib.hid hq1
  have HH1 : Hid (∀ u, Calls Try.prog 46 #[.int .i64 m.kd, .int .i64 1] u fun e w' => e = .returned (.bool H1) ∧ Below u.heap.size u w') := fun u => by rw [← hH1]; exact rhas28_any m.kd 1 u (by decide) (by decide)
  have HA1 := Lib.hid ha1
  have HZ1 := Lib.hid hb1
  clear hH1 hq1 ha1 hb1
  obtain ⟨H2, hH2⟩ : ∃ H, Kd.has m.kd 2 = H := ⟨_, rfl⟩
  obtain ⟨a2, ha2⟩ : ∃ a, dec (1 ≤ m.ct ∧ m.ct ≤ 65536) = a := ⟨_, rfl⟩
  obtain ⟨b2, hb2⟩ : ∃ b, dec (m.ct = 0) = b := ⟨_, rfl⟩
  obtain ⟨q2, hq2⟩ : ∃ q, q = dec (part m.kd 2 (1 ≤ m.ct ∧ m.ct ≤ 65536) (m.ct = 0)) := ⟨_, rfl⟩
  have HQ2 := Lib.hid (part_q hH2 ha2 hb2 hq2)
  have HD2 := Lib.hid hq2
  have HH2 : Hid (∀ u, Calls Try.prog 46 #[.int .i64 m.kd, .int .i64 2] u fun e w' => e = .returned (.bool H2) ∧ Below u.heap.size u w') := fun u => by rw [← hH2]; exact rhas28_any m.kd 2 u (by decide) (by decide)
  have HA2 := Lib.hid ha2
  have HZ2 := Lib.hid hb2
  clear hH2 hq2 ha2 hb2
  obtain ⟨H4, hH4⟩ : ∃ H, Kd.has m.kd 4 = H := ⟨_, rfl⟩
  obtain ⟨a4, ha4⟩ : ∃ a, dec (1 ≤ m.st ∧ m.st ≤ mostS m.kd) = a := ⟨_, rfl⟩
  obtain ⟨b4, hb4⟩ : ∃ b, dec (m.st = 0) = b := ⟨_, rfl⟩
  obtain ⟨q4, hq4⟩ : ∃ q, q = dec (part m.kd 4 (1 ≤ m.st ∧ m.st ≤ mostS m.kd) (m.st = 0)) := ⟨_, rfl⟩
  have HQ4 := Lib.hid (part_q hH4 ha4 hb4 hq4)
  have HD4 := Lib.hid hq4
  have HH4 : Hid (∀ u, Calls Try.prog 46 #[.int .i64 m.kd, .int .i64 4] u fun e w' => e = .returned (.bool H4) ∧ Below u.heap.size u w') := fun u => by rw [← hH4]; exact rhas28_any m.kd 4 u (by decide) (by decide)
  have HA4 := Lib.hid ha4
  have HZ4 := Lib.hid hb4
  clear hH4 hq4 ha4 hb4
  obtain ⟨H8, hH8⟩ : ∃ H, Kd.has m.kd 8 = H := ⟨_, rfl⟩
  obtain ⟨a8, ha8⟩ : ∃ a, dec (m.ss.length ≤ 16 ∧ Rises m.ss) = a := ⟨_, rfl⟩
  obtain ⟨b8, hb8⟩ : ∃ b, dec (m.ss.length = 0) = b := ⟨_, rfl⟩
  obtain ⟨q8, hq8⟩ : ∃ q, q = dec (part m.kd 8 (m.ss.length ≤ 16 ∧ Rises m.ss) (m.ss.length = 0)) := ⟨_, rfl⟩
  have HQ8 := Lib.hid (part_q hH8 ha8 hb8 hq8)
  have HD8 := Lib.hid hq8
  have HH8 : Hid (∀ u, Calls Try.prog 46 #[.int .i64 m.kd, .int .i64 8] u fun e w' => e = .returned (.bool H8) ∧ Below u.heap.size u w') := fun u => by rw [← hH8]; exact rhas28_any m.kd 8 u (by decide) (by decide)
  have HA8 := Lib.hid ha8
  have HZ8 := Lib.hid hb8
  clear hH8 hq8 ha8 hb8
  obtain ⟨H16, hH16⟩ : ∃ H, Kd.has m.kd 16 = H := ⟨_, rfl⟩
  obtain ⟨a16, ha16⟩ : ∃ a, dec (LOk m.ps m.ls) = a := ⟨_, rfl⟩
  obtain ⟨b16, hb16⟩ : ∃ b, dec (m.ls.length = 0) = b := ⟨_, rfl⟩
  obtain ⟨q16, hq16⟩ : ∃ q, q = dec (part m.kd 16 (LOk m.ps m.ls) (m.ls.length = 0)) := ⟨_, rfl⟩
  have HQ16 := Lib.hid (part_q hH16 ha16 hb16 hq16)
  have HD16 := Lib.hid hq16
  have HH16 : Hid (∀ u, Calls Try.prog 46 #[.int .i64 m.kd, .int .i64 16] u fun e w' => e = .returned (.bool H16) ∧ Below u.heap.size u w') := fun u => by rw [← hH16]; exact rhas28_any m.kd 16 u (by decide) (by decide)
  have HA16 := Lib.hid ha16
  have HZ16 := Lib.hid hb16
  clear hH16 hq16 ha16 hb16
  obtain ⟨H64, hH64⟩ : ∃ H, Kd.has m.kd 64 = H := ⟨_, rfl⟩
  obtain ⟨a64, ha64⟩ : ∃ a, dec (SeOk m.se) = a := ⟨_, rfl⟩
  obtain ⟨b64, hb64⟩ : ∃ b, dec (m.se = (0, 0, 0)) = b := ⟨_, rfl⟩
  obtain ⟨q64, hq64⟩ : ∃ q, q = dec (part m.kd 64 (SeOk m.se) (m.se = (0, 0, 0))) := ⟨_, rfl⟩
  have HQ64 := Lib.hid (part_q hH64 ha64 hb64 hq64)
  have HD64 := Lib.hid hq64
  have HH64 : Hid (∀ u, Calls Try.prog 46 #[.int .i64 m.kd, .int .i64 64] u fun e w' => e = .returned (.bool H64) ∧ Below u.heap.size u w') := fun u => by rw [← hH64]; exact rhas28_any m.kd 64 u (by decide) (by decide)
  have HA64 := Lib.hid ha64
  have HZ64 := Lib.hid hb64
  clear hH64 hq64 ha64 hb64
  obtain ⟨H128, hH128⟩ : ∃ H, Kd.has m.kd 128 = H := ⟨_, rfl⟩
  obtain ⟨a128, ha128⟩ : ∃ a, dec (POk m.pr) = a := ⟨_, rfl⟩
  obtain ⟨b128, hb128⟩ : ∃ b, dec (m.pr.1 = 0 ∧ m.pr.2.length = 0) = b := ⟨_, rfl⟩
  obtain ⟨q128, hq128⟩ : ∃ q, q = dec (part m.kd 128 (POk m.pr) (m.pr.1 = 0 ∧ m.pr.2.length = 0)) := ⟨_, rfl⟩
  have HQ128 := Lib.hid (part_q hH128 ha128 hb128 hq128)
  have HD128 := Lib.hid hq128
  have HH128 : Hid (∀ u, Calls Try.prog 46 #[.int .i64 m.kd, .int .i64 128] u fun e w' => e = .returned (.bool H128) ∧ Below u.heap.size u w') := fun u => by rw [← hH128]; exact rhas28_any m.kd 128 u (by decide) (by decide)
  have HA128 := Lib.hid ha128
  have HZ128 := Lib.hid hb128
  clear hH128 hq128 ha128 hb128
  obtain ⟨res, hres⟩ : ∃ r, r = dec (BOk m) := ⟨_, rfl⟩
  rw [← hres]
  have HRES := Lib.hid hres
  clear hres
  by_cases hk : 1 ≤ m.kd ∧ m.kd ≤ 14
  case neg =>
    obtain rfl : res = false := by rw [HRES.out]; exact dec_false fun hx => hk (of_decide_eq_true hx.1)
    have hc : m.kd < 1 ∨ (1 ≤ m.kd ∧ 14 < m.kd) := by omega
    clear hk
    rcases hc with h1 | ⟨h1, h2⟩
    all_goals
      go_enter Try.func32, Try.ntmps32
      go_upto_region 1 with (fail)
      generalize World.alloc w _ = w0 at *
      have k0 : w0.cell? ⟨w.heap.size, 0, none⟩ = some (.int .i64 m.kd) := (show Blk w0 w.heap.size 32 _ from HK.out).cell 0
      go_wp2_with fail
      go_ret
      exact ⟨rfl, HB.out⟩
  case pos =>
  have HR0 : Hid (Kd.right m.kd = true) := decide_eq_true hk
  obtain ⟨hk1, hk2⟩ := hk
  have hk3 : decide (m.kd < 1) = false := by simp; omega
  have hk4 : decide (14 < m.kd) = false := by simp; omega
  go_enter Try.func32, Try.ntmps32
  go_upto_region 1 with (fail)
  generalize World.alloc w _ = w0 at *
  have k0 : w0.cell? ⟨w.heap.size, 0, none⟩ = some (.int .i64 m.kd) := (show Blk w0 w.heap.size 32 _ from HK.out).cell 0
  go_upto_region 4 with (fail)
  clear k0 hk3 hk4
  obtain ⟨wc, hwc⟩ : ∃ wc, wc = w0 := ⟨_, rfl⟩
  have HBX : Hid (Below w0.heap.size w0 wc) := by rw [hwc]; exact Below.refl _ _
  have HKX : Hid (Blk wc w.heap.size 32 (msV m h)) := by show Blk _ _ _ _; rw [hwc]; exact HK.out
  try rw [← hwc]
  clear hwc
  have HMX : Hid (MsIn wc D m h) := HM.out.below HBX.out
  have hz : ((m.ps : Int) == 0) = b1 := by rw [← HZ1.out]; exact (dec_is ⟨fun h => by simp [h], fun h => by simpa using h⟩).symm
  have hzn : ((m.ps : Int) != 0) = !b1 := by rw [← hz]; rfl
  have HC : Hid (∀ u, Calls Try.prog 47 #[.int .u64 (m.ps : Int)] u fun e w' => e = .returned (.bool a1) ∧ u = w') := fun u => by rw [← HA1.out]; exact repos_any m.ps u HM.out.ps1
  go_cut [29] (fun sx wx => sx = .bool (!q1) ∧ Hid (Below w0.heap.size w0 wx))
  case first =>
    as_aux_lemma =>
      have k3 : ∀ q : Gr wc.heap.size wc, q.val.cell? ⟨w.heap.size, 3, none⟩ = some (.int .u64 (m.ps : Int)) := fun q => (q.is.cell (p := ⟨w.heap.size, 3, none⟩) (show Blk wc w.heap.size _ _ from HKX.out).lt).trans ((show Blk wc w.heap.size _ (msV m h) from HKX.out).cell 3)
      cases H1
      case false =>
        obtain rfl : q1 = _ := HQ1.out
        refine wp_region_still wc.heap.size ?_
        repeat (first | go_big_quiet_step (first | (go_at_call 47; exact Gr.same _ (HC.out _)) | (go_at_call 46; exact Gr.call _ (Nat.le_refl _) (HH1.out _))) | quiet_step (first | (go_at_call 47; exact Gr.same _ (HC.out _)) | (go_at_call 46; exact Gr.call _ (Nat.le_refl _) (HH1.out _))))
        refine wpQuiet_nil ?_
        rintro w5 ⟨⟨_, hb5⟩, rfl⟩
        go_wp2_with fail
        go_meet
        exact ⟨by first | rfl | simp, stepB HBX.out hb5⟩
      case true =>
        cases a1
        all_goals
          obtain rfl : q1 = _ := HQ1.out
          refine wp_region_still wc.heap.size ?_
          repeat (first | go_big_quiet_step (first | (go_at_call 47; exact Gr.same _ (HC.out _)) | (go_at_call 46; exact Gr.call _ (Nat.le_refl _) (HH1.out _))) | quiet_step (first | (go_at_call 47; exact Gr.same _ (HC.out _)) | (go_at_call 46; exact Gr.call _ (Nat.le_refl _) (HH1.out _))))
          refine wpQuiet_nil ?_
          rintro w5 ⟨⟨_, hb5⟩, rfl⟩
          go_wp2_with fail
          go_meet
          exact ⟨by first | rfl | simp, stepB HBX.out hb5⟩
  case rest =>
  obtain ⟨rfl, hbx⟩ := hcut
  clear HBX HKX HMX hz hzn HC
  have HBX := hbx
  have HKX : Hid (Blk wc w.heap.size 32 (msV m h)) := keepB (show Blk w0 w.heap.size 32 _ from HK.out) hbx.out
  clear hbx
  cases q1
  case false =>
    obtain rfl : res = false := by rw [HRES.out]; exact dec_false fun hx => of_not_dec HD1.out.symm hx.2.1
    go_wp2_with fail
    go_ret
    exact ⟨rfl, stepB HB.out HBX.out⟩
  case true =>
  have HMX : Hid (MsIn wc D m h) := HM.out.below HBX.out
  have hz : (m.ct == 0) = b2 := by rw [← HZ2.out]; exact (dec_is ⟨fun h => by simp [h], fun h => by simpa using h⟩).symm
  have hzn : (m.ct != 0) = !b2 := by rw [← hz]; rfl
  obtain ⟨x1, hx1⟩ : ∃ x, decide (m.ct < 1) = x := ⟨_, rfl⟩
  obtain ⟨x2, hx2⟩ : ∃ x, decide (65536 < m.ct) = x := ⟨_, rfl⟩
  have hxa : a2 = !(x1 || x2) := by rw [← HA2.out, ← hx1, ← hx2]; exact dec_is (by simp)
  go_upto_region 6 with (fail)
  go_cut [51] (fun sx wx => sx = .bool (!q2) ∧ Hid (Below w0.heap.size w0 wx))
  case first =>
    as_aux_lemma =>
      have k4 : ∀ q : Gr wc.heap.size wc, q.val.cell? ⟨w.heap.size, 4, none⟩ = some (.int .i64 m.ct) := fun q => (q.is.cell (p := ⟨w.heap.size, 4, none⟩) (show Blk wc w.heap.size _ _ from HKX.out).lt).trans ((show Blk wc w.heap.size _ (msV m h) from HKX.out).cell 4)
      cases H2
      case false =>
        obtain rfl : q2 = _ := HQ2.out
        refine wp_region_still wc.heap.size ?_
        repeat (first | go_big_quiet_step (first | (go_at_call 46; exact Gr.call _ (Nat.le_refl _) (HH2.out _))) | quiet_step (first | (go_at_call 46; exact Gr.call _ (Nat.le_refl _) (HH2.out _))))
        refine wpQuiet_nil ?_
        rintro w5 ⟨⟨_, hb5⟩, rfl⟩
        go_wp2_with fail
        go_meet
        exact ⟨by first | rfl | simp, stepB HBX.out hb5⟩
      case true =>
        cases x1
        case true =>
          have hqq := HQ2.out
          rw [hxa] at hqq
          obtain rfl : q2 = _ := hqq
          refine wp_region_still wc.heap.size ?_
          repeat (first | go_big_quiet_step (first | (go_at_call 46; exact Gr.call _ (Nat.le_refl _) (HH2.out _))) | quiet_step (first | (go_at_call 46; exact Gr.call _ (Nat.le_refl _) (HH2.out _))))
          refine wpQuiet_nil ?_
          rintro w5 ⟨⟨_, hb5⟩, rfl⟩
          go_wp2_with fail
          go_meet
          exact ⟨by first | rfl | simp, stepB HBX.out hb5⟩
        case false =>
          cases x2
          all_goals
            have hqq := HQ2.out
            rw [hxa] at hqq
            obtain rfl : q2 = _ := hqq
            refine wp_region_still wc.heap.size ?_
            repeat (first | go_big_quiet_step (first | (go_at_call 46; exact Gr.call _ (Nat.le_refl _) (HH2.out _))) | quiet_step (first | (go_at_call 46; exact Gr.call _ (Nat.le_refl _) (HH2.out _))))
            refine wpQuiet_nil ?_
            rintro w5 ⟨⟨_, hb5⟩, rfl⟩
            go_wp2_with fail
            go_meet
            exact ⟨by first | rfl | simp, stepB HBX.out hb5⟩
  case rest =>
  obtain ⟨rfl, hbx⟩ := hcut
  clear HBX HKX HMX hz hzn hxa hx1 hx2
  have HBX := hbx
  have HKX : Hid (Blk wc w.heap.size 32 (msV m h)) := keepB (show Blk w0 w.heap.size 32 _ from HK.out) hbx.out
  clear hbx
  cases q2
  case false =>
    obtain rfl : res = false := by rw [HRES.out]; exact dec_false fun hx => of_not_dec HD2.out.symm hx.2.2.1
    go_wp2_with fail
    go_ret
    exact ⟨rfl, stepB HB.out HBX.out⟩
  case true =>
  have HMX : Hid (MsIn wc D m h) := HM.out.below HBX.out
  have hz : (m.st == 0) = b4 := by rw [← HZ4.out]; exact (dec_is ⟨fun h => by simp [h], fun h => by simpa using h⟩).symm
  have hzn : (m.st != 0) = !b4 := by rw [← hz]; rfl
  obtain ⟨x1, hx1⟩ : ∃ x, decide (m.st < 1) = x := ⟨_, rfl⟩
  obtain ⟨x2, hx2⟩ : ∃ x, decide (mostS m.kd < m.st) = x := ⟨_, rfl⟩
  have hxa : a4 = !(x1 || x2) := by rw [← HA4.out, ← hx1, ← hx2]; exact dec_is (by simp)
  have HC := Lib.hid (fun u => rmost_any m.kd u)
  go_upto_region 8 with (fail)
  go_cut [75] (fun sx wx => sx = .bool (!q4) ∧ Hid (Below w0.heap.size w0 wx))
  case first =>
    as_aux_lemma =>
      have k5 : ∀ q : Gr wc.heap.size wc, q.val.cell? ⟨w.heap.size, 5, none⟩ = some (.int .i64 m.st) := fun q => (q.is.cell (p := ⟨w.heap.size, 5, none⟩) (show Blk wc w.heap.size _ _ from HKX.out).lt).trans ((show Blk wc w.heap.size _ (msV m h) from HKX.out).cell 5)
      cases H4
      case false =>
        obtain rfl : q4 = _ := HQ4.out
        refine wp_region_grow (by kernel_rfl) (by kernel_rfl) wc.heap.size ?_
        repeat (first | go_big_quiet_step (first | (go_at_call 48; exact Gr.same _ (HC.out _)) | (go_at_call 46; exact Gr.call _ (Nat.le_refl _) (HH4.out _))) | quiet_step (first | (go_at_call 48; exact Gr.same _ (HC.out _)) | (go_at_call 46; exact Gr.call _ (Nat.le_refl _) (HH4.out _))))
        refine wpQuiet_nil ?_
        rintro w5 ⟨⟨_, hb5⟩, rfl⟩
        go_wp2_with fail
        go_meet
        exact ⟨by first | rfl | simp, stepB HBX.out hb5⟩
      case true =>
        cases x1
        case true =>
          have hqq := HQ4.out
          rw [hxa] at hqq
          obtain rfl : q4 = _ := hqq
          refine wp_region_grow (by kernel_rfl) (by kernel_rfl) wc.heap.size ?_
          repeat (first | go_big_quiet_step (first | (go_at_call 48; exact Gr.same _ (HC.out _)) | (go_at_call 46; exact Gr.call _ (Nat.le_refl _) (HH4.out _))) | quiet_step (first | (go_at_call 48; exact Gr.same _ (HC.out _)) | (go_at_call 46; exact Gr.call _ (Nat.le_refl _) (HH4.out _))))
          refine wpQuiet_nil ?_
          rintro w5 ⟨⟨_, hb5⟩, rfl⟩
          go_wp2_with fail
          go_meet
          exact ⟨by first | rfl | simp, stepB HBX.out hb5⟩
        case false =>
          cases x2
          all_goals
            have hqq := HQ4.out
            rw [hxa] at hqq
            obtain rfl : q4 = _ := hqq
            refine wp_region_grow (by kernel_rfl) (by kernel_rfl) wc.heap.size ?_
            repeat (first | go_big_quiet_step (first | (go_at_call 48; exact Gr.same _ (HC.out _)) | (go_at_call 46; exact Gr.call _ (Nat.le_refl _) (HH4.out _))) | quiet_step (first | (go_at_call 48; exact Gr.same _ (HC.out _)) | (go_at_call 46; exact Gr.call _ (Nat.le_refl _) (HH4.out _))))
            refine wpQuiet_nil ?_
            rintro w5 ⟨⟨_, hb5⟩, rfl⟩
            go_wp2_with fail
            go_meet
            exact ⟨by first | rfl | simp, stepB HBX.out hb5⟩
  case rest =>
  obtain ⟨rfl, hbx⟩ := hcut
  clear HBX HKX HMX hz hzn hxa hx1 hx2 HC
  have HBX := hbx
  have HKX : Hid (Blk wc w.heap.size 32 (msV m h)) := keepB (show Blk w0 w.heap.size 32 _ from HK.out) hbx.out
  clear hbx
  cases q4
  case false =>
    obtain rfl : res = false := by rw [HRES.out]; exact dec_false fun hx => of_not_dec HD4.out.symm hx.2.2.2.1
    go_wp2_with fail
    go_ret
    exact ⟨rfl, stepB HB.out HBX.out⟩
  case true =>
  have HMX : Hid (MsIn wc D m h) := HM.out.below HBX.out
  obtain ⟨y0, hy0⟩ : ∃ x, decide ((0 : Int) < (h.n1 : Int)) = x := ⟨_, rfl⟩
  have hy9 : decide (0 < h.n1) = y0 := by rw [← hy0]; simp
  have hzn : y0 = !b8 := by rw [← hy0, ← HZ8.out]; have hn := HN1.out; by_cases hh : m.ss.length = 0 <;> simp [dec_true, dec_false, hh] <;> omega
  obtain ⟨x1, hx1⟩ : ∃ x, decide ((16 : Int) < (h.n1 : Int)) = x := ⟨_, rfl⟩
  obtain ⟨x2, hx2⟩ : ∃ x, dec (Rises m.ss) = x := ⟨_, rfl⟩
  have hxa : a8 = !(x1 || !x2) := by rw [← HA8.out, ← hx1, ← hx2]; have hn := HN1.out; exact dec_is ⟨fun h => by rw [dec_true h.2]; simp; omega, fun h => by simp at h; exact ⟨by omega, of_dec h.2⟩⟩
  have HC : Hid (∀ u, Below wc.heap.size wc u → Calls Try.prog 49 #[.slice h.A1 h.n1 h.c1] u fun e w' => e = .returned (.bool x2) ∧ Below u.heap.size u w') := fun u hu => by rw [← hx2]; exact rises_ref (HMX.out.below hu).ss (HMX.out.below hu).dom
  go_upto_region 10 with (fail)
  go_cut [100] (fun sx wx => sx = .bool (!q8) ∧ Hid (Below w0.heap.size w0 wx))
  case first =>
    as_aux_lemma =>
      have k6 : ∀ q : Gr wc.heap.size wc, q.val.cell? ⟨w.heap.size, 6, none⟩ = some (.slice h.A1 h.n1 h.c1) := fun q => (q.is.cell (p := ⟨w.heap.size, 6, none⟩) (show Blk wc w.heap.size _ _ from HKX.out).lt).trans ((show Blk wc w.heap.size _ (msV m h) from HKX.out).cell 6)
      cases H8
      case false =>
        obtain rfl : q8 = _ := HQ8.out
        subst hzn
        refine wp_region_still wc.heap.size ?_
        repeat (first | go_big_quiet_step (first | (go_at_call 49; exact Gr.call _ (Nat.le_refl _) (HC.out _ (Gr.is _))) | (go_at_call 46; exact Gr.call _ (Nat.le_refl _) (HH8.out _))) | quiet_step (first | (go_at_call 49; exact Gr.call _ (Nat.le_refl _) (HC.out _ (Gr.is _))) | (go_at_call 46; exact Gr.call _ (Nat.le_refl _) (HH8.out _))))
        refine wpQuiet_nil ?_
        rintro w5 ⟨⟨_, hb5⟩, rfl⟩
        go_wp2_with fail
        go_meet
        exact ⟨by first | rfl | simp, stepB HBX.out hb5⟩
      case true =>
        cases x1
        case true =>
          have hqq := HQ8.out
          rw [hxa] at hqq
          obtain rfl : q8 = _ := hqq
          subst hzn
          refine wp_region_still wc.heap.size ?_
          repeat (first | go_big_quiet_step (first | (go_at_call 49; exact Gr.call _ (Nat.le_refl _) (HC.out _ (Gr.is _))) | (go_at_call 46; exact Gr.call _ (Nat.le_refl _) (HH8.out _))) | quiet_step (first | (go_at_call 49; exact Gr.call _ (Nat.le_refl _) (HC.out _ (Gr.is _))) | (go_at_call 46; exact Gr.call _ (Nat.le_refl _) (HH8.out _))))
          refine wpQuiet_nil ?_
          rintro w5 ⟨⟨_, hb5⟩, rfl⟩
          go_wp2_with fail
          go_meet
          exact ⟨by first | rfl | simp, stepB HBX.out hb5⟩
        case false =>
          cases x2
          all_goals
            have hqq := HQ8.out
            rw [hxa] at hqq
            obtain rfl : q8 = _ := hqq
            subst hzn
            refine wp_region_still wc.heap.size ?_
            repeat (first | go_big_quiet_step (first | (go_at_call 49; exact Gr.call _ (Nat.le_refl _) (HC.out _ (Gr.is _))) | (go_at_call 46; exact Gr.call _ (Nat.le_refl _) (HH8.out _))) | quiet_step (first | (go_at_call 49; exact Gr.call _ (Nat.le_refl _) (HC.out _ (Gr.is _))) | (go_at_call 46; exact Gr.call _ (Nat.le_refl _) (HH8.out _))))
            refine wpQuiet_nil ?_
            rintro w5 ⟨⟨_, hb5⟩, rfl⟩
            go_wp2_with fail
            go_meet
            exact ⟨by first | rfl | simp, stepB HBX.out hb5⟩
  case rest =>
  obtain ⟨rfl, hbx⟩ := hcut
  clear HBX HKX HMX hzn hxa hx1 hx2 hy0 hy9 HC
  have HBX := hbx
  have HKX : Hid (Blk wc w.heap.size 32 (msV m h)) := keepB (show Blk w0 w.heap.size 32 _ from HK.out) hbx.out
  clear hbx
  cases q8
  case false =>
    obtain rfl : res = false := by rw [HRES.out]; exact dec_false fun hx => of_not_dec HD8.out.symm hx.2.2.2.2.1
    go_wp2_with fail
    go_ret
    exact ⟨rfl, stepB HB.out HBX.out⟩
  case true =>
  have HMX : Hid (MsIn wc D m h) := HM.out.below HBX.out
  obtain ⟨y0, hy0⟩ : ∃ x, decide ((0 : Int) < (h.n2 : Int)) = x := ⟨_, rfl⟩
  have hy9 : decide (0 < h.n2) = y0 := by rw [← hy0]; simp
  have hzn : y0 = !b16 := by rw [← hy0, ← HZ16.out]; have hn := HN2.out; by_cases hh : m.ls.length = 0 <;> simp [dec_true, dec_false, hh] <;> omega
  have HC : Hid (∀ u, Below wc.heap.size wc u → Calls Try.prog 50 #[.int .u64 (m.ps : Int), .slice h.A2 h.n2 h.c2] u fun e w' => e = .returned (.bool a16) ∧ Below u.heap.size u w') := fun u hu => by rw [← HA16.out]; exact rlright_any (HMX.out.below hu).ls (HMX.out.below hu).dom HM.out.ps1
  go_upto_region 12 with (fail)
  go_cut [121] (fun sx wx => sx = .bool (!q16) ∧ Hid (Below w0.heap.size w0 wx))
  case first =>
    as_aux_lemma =>
      have k3 : ∀ q : Gr wc.heap.size wc, q.val.cell? ⟨w.heap.size, 3, none⟩ = some (.int .u64 (m.ps : Int)) := fun q => (q.is.cell (p := ⟨w.heap.size, 3, none⟩) (show Blk wc w.heap.size _ _ from HKX.out).lt).trans ((show Blk wc w.heap.size _ (msV m h) from HKX.out).cell 3)
      have k7 : ∀ q : Gr wc.heap.size wc, q.val.cell? ⟨w.heap.size, 7, none⟩ = some (.slice h.A2 h.n2 h.c2) := fun q => (q.is.cell (p := ⟨w.heap.size, 7, none⟩) (show Blk wc w.heap.size _ _ from HKX.out).lt).trans ((show Blk wc w.heap.size _ (msV m h) from HKX.out).cell 7)
      cases H16
      case false =>
        obtain rfl : q16 = _ := HQ16.out
        subst hzn
        refine wp_region_still wc.heap.size ?_
        repeat (first | go_big_quiet_step (first | (go_at_call 50; exact Gr.call _ (Nat.le_refl _) (HC.out _ (Gr.is _))) | (go_at_call 46; exact Gr.call _ (Nat.le_refl _) (HH16.out _))) | quiet_step (first | (go_at_call 50; exact Gr.call _ (Nat.le_refl _) (HC.out _ (Gr.is _))) | (go_at_call 46; exact Gr.call _ (Nat.le_refl _) (HH16.out _))))
        refine wpQuiet_nil ?_
        rintro w5 ⟨⟨_, hb5⟩, rfl⟩
        go_wp2_with fail
        go_meet
        exact ⟨by first | rfl | simp, stepB HBX.out hb5⟩
      case true =>
        cases a16
        all_goals
          obtain rfl : q16 = _ := HQ16.out
          subst hzn
          refine wp_region_still wc.heap.size ?_
          repeat (first | go_big_quiet_step (first | (go_at_call 50; exact Gr.call _ (Nat.le_refl _) (HC.out _ (Gr.is _))) | (go_at_call 46; exact Gr.call _ (Nat.le_refl _) (HH16.out _))) | quiet_step (first | (go_at_call 50; exact Gr.call _ (Nat.le_refl _) (HC.out _ (Gr.is _))) | (go_at_call 46; exact Gr.call _ (Nat.le_refl _) (HH16.out _))))
          refine wpQuiet_nil ?_
          rintro w5 ⟨⟨_, hb5⟩, rfl⟩
          go_wp2_with fail
          go_meet
          exact ⟨by first | rfl | simp, stepB HBX.out hb5⟩
  case rest =>
  obtain ⟨rfl, hbx⟩ := hcut
  clear HBX HKX HMX hzn hy0 hy9 HC
  have HBX := hbx
  have HKX : Hid (Blk wc w.heap.size 32 (msV m h)) := keepB (show Blk w0 w.heap.size 32 _ from HK.out) hbx.out
  clear hbx
  cases q16
  case false =>
    obtain rfl : res = false := by rw [HRES.out]; exact dec_false fun hx => of_not_dec HD16.out.symm hx.2.2.2.2.2.1
    go_wp2_with fail
    go_ret
    exact ⟨rfl, stepB HB.out HBX.out⟩
  case true =>
  have HMX : Hid (MsIn wc D m h) := HM.out.below HBX.out
  obtain ⟨y0, hy0⟩ : ∃ x, decide ((0 : Int) < (h.n3 : Int)) = x := ⟨_, rfl⟩
  have hy9 : decide (0 < h.n3) = y0 := by rw [← hy0]; simp
  obtain ⟨y1, hy1⟩ : ∃ x, decide ((1048576 : Int) < (h.n3 : Int)) = x := ⟨_, rfl⟩
  obtain ⟨y2, hy2⟩ : ∃ x, decide (m.kd = 2 ∨ (m.kd = 9 ∧ m.st = 1)) = x := ⟨_, rfl⟩
  obtain ⟨q0, hq0⟩ : ∃ q, q = dec (m.dt.length = 0 ∨ (Blocked m ∧ m.dt.length ≤ 1048576)) := ⟨_, rfl⟩
  have HD0 := Lib.hid hq0
  have hqq0 : q0 = !((y0 && !y2) || y1) := by
    rw [hq0, ← hy0, ← hy1, ← hy2]
    have hn := HN3.out
    refine dec_is ?_
    by_cases h0 : m.dt.length = 0
    · have e1 : decide ((0 : Int) < (h.n3 : Int)) = false := by simp; omega
      have e2 : decide ((1048576 : Int) < (h.n3 : Int)) = false := by simp; omega
      rw [e1, e2]; simp only [h0, Bool.false_and, Bool.or_self, Bool.not_false, true_or]
    · have e1 : decide ((0 : Int) < (h.n3 : Int)) = true := by simp; omega
      rw [e1]
      unfold Blocked
      by_cases hb : m.kd = 2 ∨ (m.kd = 9 ∧ m.st = 1)
      · rw [decide_eq_true hb]
        constructor
        · rintro (hh | hh)
          · exact absurd hh h0
          · have e2 : decide ((1048576 : Int) < (h.n3 : Int)) = false := by simp; omega
            rw [e2]; rfl
        · intro hq
          refine .inr ⟨hb, ?_⟩
          have e2 : ¬ ((1048576 : Int) < (h.n3 : Int)) := fun hh => by rw [decide_eq_true hh] at hq; simp at hq
          omega
      · rw [decide_eq_false hb]
        constructor
        · rintro (hh | hh)
          · exact absurd hh h0
          · exact absurd hh.1 hb
        · intro hq; simp at hq
  have HC : Hid (∀ u, Calls Try.prog 51 #[.int .i64 m.kd, .int .i64 m.st] u fun e w' => e = .returned (.bool y2) ∧ u = w') := fun u => by rw [← hy2]; exact rblock_any m.kd m.st u
  clear hq0
  go_upto_region 14 with (fail)
  go_cut [138] (fun sx wx => sx = .bool (!q0) ∧ Hid (Below w0.heap.size w0 wx))
  case first =>
    as_aux_lemma =>
      have k5 : ∀ q : Gr wc.heap.size wc, q.val.cell? ⟨w.heap.size, 5, none⟩ = some (.int .i64 m.st) := fun q => (q.is.cell (p := ⟨w.heap.size, 5, none⟩) (show Blk wc w.heap.size _ _ from HKX.out).lt).trans ((show Blk wc w.heap.size _ (msV m h) from HKX.out).cell 5)
      have k8 : ∀ q : Gr wc.heap.size wc, q.val.cell? ⟨w.heap.size, 8, none⟩ = some (.slice h.A3 h.n3 h.c3) := fun q => (q.is.cell (p := ⟨w.heap.size, 8, none⟩) (show Blk wc w.heap.size _ _ from HKX.out).lt).trans ((show Blk wc w.heap.size _ (msV m h) from HKX.out).cell 8)
      cases y0
      case false =>
        obtain rfl : q0 = _ := hqq0
        refine wp_region_still wc.heap.size ?_
        repeat (first | go_big_quiet_step (first | (go_at_call 51; exact Gr.same _ (HC.out _))) | quiet_step (first | (go_at_call 51; exact Gr.same _ (HC.out _))))
        refine wpQuiet_nil ?_
        rintro w5 ⟨⟨_, hb5⟩, rfl⟩
        go_wp2_with fail
        go_meet
        exact ⟨by first | rfl | simp, stepB HBX.out hb5⟩
      case true =>
        cases y2
        all_goals
          obtain rfl : q0 = _ := hqq0
          refine wp_region_still wc.heap.size ?_
          repeat (first | go_big_quiet_step (first | (go_at_call 51; exact Gr.same _ (HC.out _))) | quiet_step (first | (go_at_call 51; exact Gr.same _ (HC.out _))))
          refine wpQuiet_nil ?_
          rintro w5 ⟨⟨_, hb5⟩, rfl⟩
          go_wp2_with fail
          go_meet
          exact ⟨by first | rfl | simp, stepB HBX.out hb5⟩
  case rest =>
  obtain ⟨rfl, hbx⟩ := hcut
  clear HBX HKX HMX hy0 hy9 hy1 hy2 hqq0 HC
  have HBX := hbx
  have HKX : Hid (Blk wc w.heap.size 32 (msV m h)) := keepB (show Blk w0 w.heap.size 32 _ from HK.out) hbx.out
  clear hbx
  cases q0
  case false =>
    obtain rfl : res = false := by rw [HRES.out]; exact dec_false fun hx => of_not_dec HD0.out.symm hx.2.2.2.2.2.2.2.2
    go_wp2_with fail
    go_ret
    exact ⟨rfl, stepB HB.out HBX.out⟩
  case true =>
  have HMX : Hid (MsIn wc D m h) := HM.out.below HBX.out
  have HC : Hid (∀ u, Calls Try.prog 52 #[.agg #[.int .u64 (m.se.1 : Int), .int .u64 (m.se.2.1 : Int), .int .u64 (m.se.2.2 : Int)]] u fun e w' => e = .returned (.bool a64) ∧ Below u.heap.size u w') := fun u => by rw [← HA64.out]; exact rseal_any _ _ _ u HM.out.s11
  have hz : ∀ u, (binOp .neq 27 (.agg #[.int .u64 (m.se.1 : Int), .int .u64 (m.se.2.1 : Int), .int .u64 (m.se.2.2 : Int)]) (.agg #[.int .u64 0, .int .u64 0, .int .u64 0])).run Try.prog u = .ok (.bool (!b64)) u := fun u => by
    rw [seal_neq, ← HZ64.out]
    congr 3
    exact (dec_is ⟨fun h => by rw [h]; rfl, fun h => by
      simp only [Bool.and_eq_true, beq_iff_eq] at h
      obtain ⟨h1, h2, h3⟩ := h
      refine Prod.ext (by simp only; omega) (Prod.ext (by simp only; omega) (by simp only; omega))⟩).symm
  have hsg := seal_guard
  go_upto_region 16 with (fail)
  go_cut [157] (fun sx wx => sx = .bool (!q64) ∧ Hid (Below w0.heap.size w0 wx))
  case first =>
    as_aux_lemma =>
      have k9 : ∀ q : Gr wc.heap.size wc, q.val.cell? ⟨w.heap.size, 9, none⟩ = some (.int .u64 (m.se.1 : Int)) := fun q => (q.is.cell (p := ⟨w.heap.size, 9, none⟩) (show Blk wc w.heap.size _ _ from HKX.out).lt).trans ((show Blk wc w.heap.size _ (msV m h) from HKX.out).cell 9)
      have k10 : ∀ q : Gr wc.heap.size wc, q.val.cell? ⟨w.heap.size, 10, none⟩ = some (.int .u64 (m.se.2.1 : Int)) := fun q => (q.is.cell (p := ⟨w.heap.size, 10, none⟩) (show Blk wc w.heap.size _ _ from HKX.out).lt).trans ((show Blk wc w.heap.size _ (msV m h) from HKX.out).cell 10)
      have k11 : ∀ q : Gr wc.heap.size wc, q.val.cell? ⟨w.heap.size, 11, none⟩ = some (.int .u64 (m.se.2.2 : Int)) := fun q => (q.is.cell (p := ⟨w.heap.size, 11, none⟩) (show Blk wc w.heap.size _ _ from HKX.out).lt).trans ((show Blk wc w.heap.size _ (msV m h) from HKX.out).cell 11)
      cases H64
      case false =>
        obtain rfl : q64 = _ := HQ64.out
        refine wp_region_still wc.heap.size ?_
        repeat (first | go_big_quiet_step (first | (go_at_call 52; exact Gr.call _ (Nat.le_refl _) (HC.out _)) | (go_at_call 46; exact Gr.call _ (Nat.le_refl _) (HH64.out _))) | quiet_step (first | (go_at_call 52; exact Gr.call _ (Nat.le_refl _) (HC.out _)) | (go_at_call 46; exact Gr.call _ (Nat.le_refl _) (HH64.out _))))
        refine wpQuiet_nil ?_
        rintro w5 ⟨⟨_, hb5⟩, rfl⟩
        go_wp2_with fail
        go_meet
        exact ⟨by first | rfl | simp, stepB HBX.out hb5⟩
      case true =>
        cases a64
        all_goals
          obtain rfl : q64 = _ := HQ64.out
          refine wp_region_still wc.heap.size ?_
          repeat (first | go_big_quiet_step (first | (go_at_call 52; exact Gr.call _ (Nat.le_refl _) (HC.out _)) | (go_at_call 46; exact Gr.call _ (Nat.le_refl _) (HH64.out _))) | quiet_step (first | (go_at_call 52; exact Gr.call _ (Nat.le_refl _) (HC.out _)) | (go_at_call 46; exact Gr.call _ (Nat.le_refl _) (HH64.out _))))
          refine wpQuiet_nil ?_
          rintro w5 ⟨⟨_, hb5⟩, rfl⟩
          go_wp2_with fail
          go_meet
          exact ⟨by first | rfl | simp, stepB HBX.out hb5⟩
  case rest =>
  obtain ⟨rfl, hbx⟩ := hcut
  clear HBX HKX HMX hz hsg HC
  have HBX := hbx
  have HKX : Hid (Blk wc w.heap.size 32 (msV m h)) := keepB (show Blk w0 w.heap.size 32 _ from HK.out) hbx.out
  clear hbx
  cases q64
  case false =>
    obtain rfl : res = false := by rw [HRES.out]; exact dec_false fun hx => of_not_dec HD64.out.symm hx.2.2.2.2.2.2.1
    go_wp2_with fail
    go_ret
    exact ⟨rfl, stepB HB.out HBX.out⟩
  case true =>
  have HMX : Hid (MsIn wc D m h) := HM.out.below HBX.out
  obtain ⟨x1, hx1⟩ : ∃ x, ((m.pr.1 : Int) == 0) = x := ⟨_, rfl⟩
  obtain ⟨x2, hx2⟩ : ∃ x, ((h.n4 : Int) == 0) = x := ⟨_, rfl⟩
  have hxb : b128 = (x1 && x2) := by rw [← HZ128.out, ← hx1, ← hx2]; exact dec_is (by rw [Bool.and_eq_true]; exact and_congr ⟨fun h => by simp [h], fun h => by simpa using h⟩ (len_zero HN4.out))
  have HC : Hid (∀ u, Below wc.heap.size wc u → Calls Try.prog 53 #[.agg (prjV m.pr.1 h.A4 h.n4 h.c4)] u fun e w' => e = .returned (.bool a128) ∧ Below u.heap.size u w') := fun u hu => by rw [← HA128.out]; exact rpright_any (HMX.out.below hu).pr (HMX.out.below hu).dom HM.out.pe1
  go_upto_region 18 with (fail)
  have hall : res = q128 := by
    rw [HRES.out]
    refine dec_is ⟨fun hx => ?_, fun hx => ⟨HR0.out, of_dec HD1.out.symm, of_dec HD2.out.symm, of_dec HD4.out.symm, of_dec HD8.out.symm, of_dec HD16.out.symm, of_dec HD64.out.symm, ?_, of_dec HD0.out.symm⟩⟩
    · rw [HD128.out]; exact dec_true hx.2.2.2.2.2.2.2.1
    · rw [HD128.out] at hx; exact of_dec hx
  subst hall
  as_aux_lemma =>
    have k12 : ∀ q : Gr wc.heap.size wc, q.val.cell? ⟨w.heap.size, 12, none⟩ = some (.int .u64 (m.pr.1 : Int)) := fun q => (q.is.cell (p := ⟨w.heap.size, 12, none⟩) (show Blk wc w.heap.size _ _ from HKX.out).lt).trans ((show Blk wc w.heap.size _ (msV m h) from HKX.out).cell 12)
    have k13 : ∀ q : Gr wc.heap.size wc, q.val.cell? ⟨w.heap.size, 13, none⟩ = some (.slice h.A4 h.n4 h.c4) := fun q => (q.is.cell (p := ⟨w.heap.size, 13, none⟩) (show Blk wc w.heap.size _ _ from HKX.out).lt).trans ((show Blk wc w.heap.size _ (msV m h) from HKX.out).cell 13)
    cases H128
    case true =>
      cases a128
      all_goals
        have HQQ := Lib.hid HQ128.out
        refine wp_region_still wc.heap.size ?_
        repeat (first | go_big_quiet_step (first | (go_at_call 53; exact Gr.call _ (Nat.le_refl _) (HC.out _ (Gr.is _))) | (go_at_call 46; exact Gr.call _ (Nat.le_refl _) (HH128.out _))) | quiet_step (first | (go_at_call 53; exact Gr.call _ (Nat.le_refl _) (HC.out _ (Gr.is _))) | (go_at_call 46; exact Gr.call _ (Nat.le_refl _) (HH128.out _))))
        refine wpQuiet_nil ?_
        rintro w5 ⟨⟨_, hb5⟩, rfl⟩
        go_wp2_with fail
        go_ret
        exact ⟨by rw [HQQ.out]; first | rfl | simp, stepB HB.out (stepB HBX.out hb5)⟩
    case false =>
      cases x1
      all_goals
        have hqq := HQ128.out
        rw [hxb] at hqq
        have HQQ := Lib.hid hqq
        clear hqq
        refine wp_region_still wc.heap.size ?_
        repeat (first | go_big_quiet_step (first | (go_at_call 53; exact Gr.call _ (Nat.le_refl _) (HC.out _ (Gr.is _))) | (go_at_call 46; exact Gr.call _ (Nat.le_refl _) (HH128.out _))) | quiet_step (first | (go_at_call 53; exact Gr.call _ (Nat.le_refl _) (HC.out _ (Gr.is _))) | (go_at_call 46; exact Gr.call _ (Nat.le_refl _) (HH128.out _))))
        refine wpQuiet_nil ?_
        rintro w5 ⟨⟨_, hb5⟩, rfl⟩
        go_wp2_with fail
        go_ret
        exact ⟨by rw [HQQ.out]; first | rfl | simp, stepB HB.out (stepB HBX.out hb5)⟩
set_option maxRecDepth 100000 in
theorem rmright_any (hm : MsIn w D m h) : Calls Try.prog 15 #[.agg (msV m h)] w fun e w' => e = .returned (.bool (dec (MOk m))) ∧ Below w.heap.size w w' := by
  have hb0 := below1 w (.cells (msV m h) 32)
  have HB := Lib.hid hb0
  have HK := Lib.hid (blk11 w 32 (msV m h))
  obtain ⟨bb, hbb⟩ : ∃ b, dec (BOk m) = b := ⟨_, rfl⟩
  obtain ⟨ee, hee⟩ : ∃ b, dec (EOk m.ep) = b := ⟨_, rfl⟩
  obtain ⟨res, hres⟩ : ∃ b, dec (MOk m) = b := ⟨_, rfl⟩
  have hall : res = (bb && ee) := by
    rw [← hres, ← hbb, ← hee]
    refine dec_is ?_
    rw [Bool.and_eq_true]
    exact ⟨fun h => ⟨dec_true h.1, dec_true h.2⟩, fun h => ⟨of_dec h.1, of_dec h.2⟩⟩
  have HBR := rbright_any (hm.below hb0)
  rw [hbb] at HBR
  have HBR' := Lib.hid HBR
  have HER := Lib.hid (fun u => reright_any m.ep u hm.ep1)
  rw [hee] at HER
  rw [hres]
  clear HBR hbb hee hres hb0
  go_enter Try.func15, Try.ntmps15
  go_upto_region 1 with (fail)
  generalize World.alloc w _ = w0 at *
  have k0 : w0.cell? ⟨w.heap.size, 0, none⟩ = some (.int .i64 m.kd) := (show Blk w0 w.heap.size _ (msV m h) from HK.out).cell 0
  have k1 : w0.cell? ⟨w.heap.size, 1, none⟩ = some (.int .u64 (m.ep : Int)) := (show Blk w0 w.heap.size _ (msV m h) from HK.out).cell 1
  have k2 : w0.cell? ⟨w.heap.size, 2, none⟩ = some (.int .u64 (m.sq : Int)) := (show Blk w0 w.heap.size _ (msV m h) from HK.out).cell 2
  have k3 : w0.cell? ⟨w.heap.size, 3, none⟩ = some (.int .u64 (m.ps : Int)) := (show Blk w0 w.heap.size _ (msV m h) from HK.out).cell 3
  have k4 : w0.cell? ⟨w.heap.size, 4, none⟩ = some (.int .i64 m.ct) := (show Blk w0 w.heap.size _ (msV m h) from HK.out).cell 4
  have k5 : w0.cell? ⟨w.heap.size, 5, none⟩ = some (.int .i64 m.st) := (show Blk w0 w.heap.size _ (msV m h) from HK.out).cell 5
  have k6 : w0.cell? ⟨w.heap.size, 6, none⟩ = some (.slice h.A1 h.n1 h.c1) := (show Blk w0 w.heap.size _ (msV m h) from HK.out).cell 6
  have k7 : w0.cell? ⟨w.heap.size, 7, none⟩ = some (.slice h.A2 h.n2 h.c2) := (show Blk w0 w.heap.size _ (msV m h) from HK.out).cell 7
  have k8 : w0.cell? ⟨w.heap.size, 8, none⟩ = some (.slice h.A3 h.n3 h.c3) := (show Blk w0 w.heap.size _ (msV m h) from HK.out).cell 8
  have k9 : w0.cell? ⟨w.heap.size, 9, none⟩ = some (.int .u64 (m.se.1 : Int)) := (show Blk w0 w.heap.size _ (msV m h) from HK.out).cell 9
  have k10 : w0.cell? ⟨w.heap.size, 10, none⟩ = some (.int .u64 (m.se.2.1 : Int)) := (show Blk w0 w.heap.size _ (msV m h) from HK.out).cell 10
  have k11 : w0.cell? ⟨w.heap.size, 11, none⟩ = some (.int .u64 (m.se.2.2 : Int)) := (show Blk w0 w.heap.size _ (msV m h) from HK.out).cell 11
  have k12 : w0.cell? ⟨w.heap.size, 12, none⟩ = some (.int .u64 (m.pr.1 : Int)) := (show Blk w0 w.heap.size _ (msV m h) from HK.out).cell 12
  have k13 : w0.cell? ⟨w.heap.size, 13, none⟩ = some (.slice h.A4 h.n4 h.c4) := (show Blk w0 w.heap.size _ (msV m h) from HK.out).cell 13
  go_wp2_with fail
  refine HBR'.out.mono ?_; rintro e w1 ⟨rfl, hb1⟩
  have hk1 := keepB (show Blk w0 w.heap.size 32 (msV m h) from HK.out) hb1
  have HB1 := Lib.hid (stepB HB.out hb1)
  clear k0 k1 k2 k3 k4 k5 k6 k7 k8 k9 k10 k11 k12 k13 hb1
  have k1 : w1.cell? ⟨w.heap.size, 1, none⟩ = some (.int .u64 (m.ep : Int)) := hk1.cell 1
  clear hk1
  cases bb
  case false =>
    obtain rfl : res = false := by rw [hall]; rfl
    clear hall
    go_wp2_with fail
    go_ret
    exact ⟨rfl, HB1.out⟩
  case true =>
    obtain rfl : res = ee := by rw [hall]; rfl
    clear hall
    go_wp2_with fail
    refine (HER.out _).mono ?_; rintro e w2 ⟨rfl, rfl⟩
    go_wp2_with fail
    go_ret
    exact ⟨rfl, HB1.out⟩
end
end Go.Proofs.Ytlfieiiegokejaa
