/- body.Right and rpc.Right. -/
import Derived.Test.YtnihaaifkogpbaaTkE
import Derived.Test.YtnihaaifkogpbaaPrj2
namespace Go.Proofs.Ytnihaaifkogpbaa
open Go.ChangeShapes Go.WideShapes Go.ChangeAt Go.RowKit
set_option linter.unusedVariables false
theorem dec_is {p : Prop} {b : Bool} (h : p ↔ b = true) : dec p = b := by
  cases b
  · exact dec_false fun hp => by have := h.1 hp; cases this
  · exact dec_true (h.2 rfl)
theorem part_q {k p : Int} {R Z : Prop} {H a b q : Bool} (hH : Kd.has k p = H) (ha : dec R = a) (hb : dec Z = b) (hq : q = dec (part k p R Z)) : q = (bif H then a else b) := by
  subst hH; subst ha; subst hb; subst hq
  unfold part
  cases Kd.has k p
  · rw [if_neg (by decide)]; rfl
  · rw [if_pos rfl]; rfl
theorem len_zero {α : Type} {l : List α} {n : Nat} (hn : l.length = n) : l.length = 0 ↔ ((n : Int) == 0) = true := by rw [hn]; simp
theorem has_32 (k : Int) : Kd.has k 32 = decide (k = 2 ∨ k = 9) := by
  have h := Kd.by_rows (p := fun i => Kd.hasI i 32 = (i == 2 || i == 9)) (fun i => has32 i) k
  show Kd.hasI (Kd.idx k) 32 = _
  rw [h]
  unfold Kd.idx
  by_cases hk : 1 ≤ k ∧ k ≤ 14
  · rw [if_pos hk]
    by_cases h2 : k = 2
    · subst h2; rfl
    · by_cases h9 : k = 9
      · subst h9; rfl
      · have e1 : (k.toNat == 2) = false := by simp; omega
        have e2 : (k.toNat == 9) = false := by simp; omega
        rw [e1, e2]; simp [h2, h9]
  · rw [if_neg hk]
    have h2 : k ≠ 2 := by omega
    have h9 : k ≠ 9 := by omega
    simp [h2, h9]
section
variable {D : Dom} {m : Ms} {h : Hd} {w : World}
set_option maxRecDepth 100000 in
theorem khasdata_any (hm : MsIn w D m h) : Calls Try.prog 48 #[.agg (msV m h)] w fun e w' => e = .returned (.bool (dec (Blocked m))) ∧ Below w.heap.size w w' := by
  have HB := Lib.hid (below1 w (.cells (msV m h) 40))
  have HK := Lib.hid (blk11 w 40 (msV m h))
  have HH := Lib.hid (fun u => khas_any m.kd 32 u (by decide) (by decide))
  rw [has_32] at HH
  obtain ⟨b, hb⟩ : ∃ b, b = dec (Blocked m) := ⟨_, rfl⟩
  rw [← hb]
  by_cases h2 : m.kd = 2
  · obtain rfl : b = true := by rw [hb]; exact dec_true (.inl h2)
    have hd : decide (m.kd = 2 ∨ m.kd = 9) = true := by simp [h2]
    rw [hd] at HH
    have h9 : (m.kd != 9) = true := by simp [h2]
    clear hb h2 hd
    go_enter Try.func48, Try.ntmps48
    go_upto_region 1 with (fail)
    generalize World.alloc w _ = w0 at *
    have k0 : w0.cell? ⟨w.heap.size, 0, none⟩ = some (.int .i64 m.kd) := (show Blk w0 w.heap.size 40 _ from HK.out).cell 0
    go_wp2_with fail
    refine (HH.out _).mono ?_; rintro e w1 ⟨rfl, hb1⟩
    have hk1 := keepB (show Blk w0 w.heap.size 40 _ from HK.out) hb1
    clear k0
    have k0 : w1.cell? ⟨w.heap.size, 0, none⟩ = some (.int .i64 m.kd) := hk1.cell 0
    have HB1 := Lib.hid (stepB HB.out hb1)
    clear hk1 hb1
    go_wp2_with fail
    go_ret
    exact ⟨rfl, HB1.out⟩
  · by_cases h9 : m.kd = 9
    · have hd : decide (m.kd = 2 ∨ m.kd = 9) = true := by simp [h9]
      rw [hd] at HH
      obtain ⟨d, hd1⟩ : ∃ d, (m.st == 1) = d := ⟨_, rfl⟩
      obtain rfl : b = d := by
        rw [hb, ← hd1]
        exact dec_is ⟨fun hx => by rcases hx with hx | hx; exact absurd hx h2; simpa using hx.2, fun hx => .inr ⟨h9, by simpa using hx⟩⟩
      have hn9 : (m.kd != 9) = false := by simp [h9]
      clear hb h2 hd h9
      go_enter Try.func48, Try.ntmps48
      go_upto_region 1 with (fail)
      generalize World.alloc w _ = w0 at *
      have k0 : w0.cell? ⟨w.heap.size, 0, none⟩ = some (.int .i64 m.kd) := (show Blk w0 w.heap.size 40 _ from HK.out).cell 0
      go_wp2_with fail
      refine (HH.out _).mono ?_; rintro e w1 ⟨rfl, hb1⟩
      have hk1 := keepB (show Blk w0 w.heap.size 40 _ from HK.out) hb1
      clear k0
      have k0 : w1.cell? ⟨w.heap.size, 0, none⟩ = some (.int .i64 m.kd) := hk1.cell 0
      have k5 : w1.cell? ⟨w.heap.size, 5, none⟩ = some (.int .i64 m.st) := hk1.cell 5
      have HB1 := Lib.hid (stepB HB.out hb1)
      clear hk1 hb1
      go_wp2_with fail
      go_ret
      exact ⟨rfl, HB1.out⟩
    · obtain rfl : b = false := by rw [hb]; exact dec_false fun hx => by rcases hx with hx | hx; exact h2 hx; exact h9 hx.1
      have hd : decide (m.kd = 2 ∨ m.kd = 9) = false := by simp [h2, h9]
      rw [hd] at HH
      clear hb h2 hd h9
      go_enter Try.func48, Try.ntmps48
      go_upto_region 1 with (fail)
      generalize World.alloc w _ = w0 at *
      have k0 : w0.cell? ⟨w.heap.size, 0, none⟩ = some (.int .i64 m.kd) := (show Blk w0 w.heap.size 40 _ from HK.out).cell 0
      go_wp2_with fail
      refine (HH.out _).mono ?_; rintro e w1 ⟨rfl, hb1⟩
      have HB1 := Lib.hid (stepB HB.out hb1)
      clear k0 hb1
      go_wp2_with fail
      go_ret
      exact ⟨rfl, HB1.out⟩
set_option maxRecDepth 100000 in
set_option maxHeartbeats 8000000 in
theorem bright_any (hm : MsIn w D m h) : Calls Try.prog 25 #[.agg (msV m h)] w fun e w' => e = .returned (.bool (dec (BOk m))) ∧ Below w.heap.size w w' := by
  have hb0 := below1 w (.cells (msV m h) 40)
  have HB := Lib.hid hb0
  have HK := Lib.hid (blk11 w 40 (msV m h))
  have HM := Lib.hid (hm.below hb0)
  have HN1 := Lib.hid (Rp.sl_len hm.ss).1
  have HN2 := Lib.hid (Rp.sl_len hm.ls).1
  have HN3 := Lib.hid (Rp.sl_len hm.dt).1
  have HN4 := Lib.hid (Rp.sl_len hm.pr).1
  have hm3 := (Rp.sl_len hm.dt).2
  clear hb0
  obtain ⟨H1, hH1⟩ : ∃ H, Kd.has m.kd 1 = H := ⟨_, rfl⟩
  obtain ⟨a1, ha1⟩ : ∃ a, dec (PosOk m.ps) = a := ⟨_, rfl⟩
  obtain ⟨b1, hb1⟩ : ∃ b, dec (m.ps = 0) = b := ⟨_, rfl⟩
  obtain ⟨q1, hq1⟩ : ∃ q, q = dec (part m.kd 1 (PosOk m.ps) (m.ps = 0)) := ⟨_, rfl⟩
  have HQ1 := Lib.hid (part_q hH1 ha1 hb1 hq1)
  have HD1 := Lib.hid hq1
  have HW1 : Hid (∀ (a b : Bool) (u : World), Calls Try.prog 41 #[.int .i64 m.kd, .int .i64 1, .bool a, .bool b] u fun e w' => e = .returned (.bool (bif H1 then a else b)) ∧ Below u.heap.size u w') := fun a b u => kwithin_any a b u (by decide) (by decide) hH1
  have HA1 := Lib.hid ha1
  have HZ1 := Lib.hid hb1
  clear hH1 hq1 ha1 hb1
  obtain ⟨H2, hH2⟩ : ∃ H, Kd.has m.kd 2 = H := ⟨_, rfl⟩
  obtain ⟨a2, ha2⟩ : ∃ a, dec (1 ≤ m.ct ∧ m.ct ≤ 65536) = a := ⟨_, rfl⟩
  obtain ⟨b2, hb2⟩ : ∃ b, dec (m.ct = 0) = b := ⟨_, rfl⟩
  obtain ⟨q2, hq2⟩ : ∃ q, q = dec (part m.kd 2 (1 ≤ m.ct ∧ m.ct ≤ 65536) (m.ct = 0)) := ⟨_, rfl⟩
  have HQ2 := Lib.hid (part_q hH2 ha2 hb2 hq2)
  have HD2 := Lib.hid hq2
  have HW2 : Hid (∀ (a b : Bool) (u : World), Calls Try.prog 41 #[.int .i64 m.kd, .int .i64 2, .bool a, .bool b] u fun e w' => e = .returned (.bool (bif H2 then a else b)) ∧ Below u.heap.size u w') := fun a b u => kwithin_any a b u (by decide) (by decide) hH2
  have HA2 := Lib.hid ha2
  have HZ2 := Lib.hid hb2
  clear hH2 hq2 ha2 hb2
  obtain ⟨H4, hH4⟩ : ∃ H, Kd.has m.kd 4 = H := ⟨_, rfl⟩
  obtain ⟨a4, ha4⟩ : ∃ a, dec (1 ≤ m.st ∧ m.st ≤ mostS m.kd) = a := ⟨_, rfl⟩
  obtain ⟨b4, hb4⟩ : ∃ b, dec (m.st = 0) = b := ⟨_, rfl⟩
  obtain ⟨q4, hq4⟩ : ∃ q, q = dec (part m.kd 4 (1 ≤ m.st ∧ m.st ≤ mostS m.kd) (m.st = 0)) := ⟨_, rfl⟩
  have HQ4 := Lib.hid (part_q hH4 ha4 hb4 hq4)
  have HD4 := Lib.hid hq4
  have HW4 : Hid (∀ (a b : Bool) (u : World), Calls Try.prog 41 #[.int .i64 m.kd, .int .i64 4, .bool a, .bool b] u fun e w' => e = .returned (.bool (bif H4 then a else b)) ∧ Below u.heap.size u w') := fun a b u => kwithin_any a b u (by decide) (by decide) hH4
  have HA4 := Lib.hid ha4
  have HZ4 := Lib.hid hb4
  clear hH4 hq4 ha4 hb4
  obtain ⟨H8, hH8⟩ : ∃ H, Kd.has m.kd 8 = H := ⟨_, rfl⟩
  obtain ⟨a8, ha8⟩ : ∃ a, dec (m.ss.length ≤ 16 ∧ Rises m.ss) = a := ⟨_, rfl⟩
  obtain ⟨b8, hb8⟩ : ∃ b, dec (m.ss.length = 0) = b := ⟨_, rfl⟩
  obtain ⟨q8, hq8⟩ : ∃ q, q = dec (part m.kd 8 (m.ss.length ≤ 16 ∧ Rises m.ss) (m.ss.length = 0)) := ⟨_, rfl⟩
  have HQ8 := Lib.hid (part_q hH8 ha8 hb8 hq8)
  have HD8 := Lib.hid hq8
  have HW8 : Hid (∀ (a b : Bool) (u : World), Calls Try.prog 41 #[.int .i64 m.kd, .int .i64 8, .bool a, .bool b] u fun e w' => e = .returned (.bool (bif H8 then a else b)) ∧ Below u.heap.size u w') := fun a b u => kwithin_any a b u (by decide) (by decide) hH8
  have HA8 := Lib.hid ha8
  have HZ8 := Lib.hid hb8
  clear hH8 hq8 ha8 hb8
  obtain ⟨H16, hH16⟩ : ∃ H, Kd.has m.kd 16 = H := ⟨_, rfl⟩
  obtain ⟨a16, ha16⟩ : ∃ a, dec (LOk m.ps m.ls) = a := ⟨_, rfl⟩
  obtain ⟨b16, hb16⟩ : ∃ b, dec (m.ls.length = 0) = b := ⟨_, rfl⟩
  obtain ⟨q16, hq16⟩ : ∃ q, q = dec (part m.kd 16 (LOk m.ps m.ls) (m.ls.length = 0)) := ⟨_, rfl⟩
  have HQ16 := Lib.hid (part_q hH16 ha16 hb16 hq16)
  have HD16 := Lib.hid hq16
  have HW16 : Hid (∀ (a b : Bool) (u : World), Calls Try.prog 41 #[.int .i64 m.kd, .int .i64 16, .bool a, .bool b] u fun e w' => e = .returned (.bool (bif H16 then a else b)) ∧ Below u.heap.size u w') := fun a b u => kwithin_any a b u (by decide) (by decide) hH16
  have HA16 := Lib.hid ha16
  have HZ16 := Lib.hid hb16
  clear hH16 hq16 ha16 hb16
  obtain ⟨H64, hH64⟩ : ∃ H, Kd.has m.kd 64 = H := ⟨_, rfl⟩
  obtain ⟨a64, ha64⟩ : ∃ a, dec (SeOk m.se) = a := ⟨_, rfl⟩
  obtain ⟨b64, hb64⟩ : ∃ b, dec (m.se = (0, 0, 0)) = b := ⟨_, rfl⟩
  obtain ⟨q64, hq64⟩ : ∃ q, q = dec (part m.kd 64 (SeOk m.se) (m.se = (0, 0, 0))) := ⟨_, rfl⟩
  have HQ64 := Lib.hid (part_q hH64 ha64 hb64 hq64)
  have HD64 := Lib.hid hq64
  have HW64 : Hid (∀ (a b : Bool) (u : World), Calls Try.prog 41 #[.int .i64 m.kd, .int .i64 64, .bool a, .bool b] u fun e w' => e = .returned (.bool (bif H64 then a else b)) ∧ Below u.heap.size u w') := fun a b u => kwithin_any a b u (by decide) (by decide) hH64
  have HA64 := Lib.hid ha64
  have HZ64 := Lib.hid hb64
  clear hH64 hq64 ha64 hb64
  obtain ⟨H128, hH128⟩ : ∃ H, Kd.has m.kd 128 = H := ⟨_, rfl⟩
  obtain ⟨a128, ha128⟩ : ∃ a, dec (POk m.pr) = a := ⟨_, rfl⟩
  obtain ⟨b128, hb128⟩ : ∃ b, dec (m.pr.1 = 0 ∧ m.pr.2.length = 0) = b := ⟨_, rfl⟩
  obtain ⟨q128, hq128⟩ : ∃ q, q = dec (part m.kd 128 (POk m.pr) (m.pr.1 = 0 ∧ m.pr.2.length = 0)) := ⟨_, rfl⟩
  have HQ128 := Lib.hid (part_q hH128 ha128 hb128 hq128)
  have HD128 := Lib.hid hq128
  have HW128 : Hid (∀ (a b : Bool) (u : World), Calls Try.prog 41 #[.int .i64 m.kd, .int .i64 128, .bool a, .bool b] u fun e w' => e = .returned (.bool (bif H128 then a else b)) ∧ Below u.heap.size u w') := fun a b u => kwithin_any a b u (by decide) (by decide) hH128
  have HA128 := Lib.hid ha128
  have HZ128 := Lib.hid hb128
  clear hH128 hq128 ha128 hb128
  obtain ⟨r0, hr0⟩ : ∃ r, Kd.right m.kd = r := ⟨_, rfl⟩
  have HR0 := Lib.hid hr0
  have HRR : Hid (∀ u, Calls Try.prog 40 #[.int .i64 m.kd] u fun e w' => e = .returned (.bool r0) ∧ u = w') := fun u => by rw [← HR0.out]; exact kright_any m.kd u
  obtain ⟨res, hres⟩ : ∃ r, r = dec (BOk m) := ⟨_, rfl⟩
  rw [← hres]
  have HRES := Lib.hid hres
  clear hres hr0
  go_enter Try.func25, Try.ntmps25
  go_upto_region 1 with (fail)
  generalize World.alloc w _ = w0 at *
  have k0 : w0.cell? ⟨w.heap.size, 0, none⟩ = some (.int .i64 m.kd) := (show Blk w0 w.heap.size 40 _ from HK.out).cell 0
  go_wp2_with fail
  refine (HRR.out _).mono ?_; rintro e wx ⟨rfl, rfl⟩
  clear k0
  cases r0
  case false =>
    obtain rfl : res = false := by rw [HRES.out]; exact dec_false fun hx => by have h1 := hx.1; rw [HR0.out] at h1; cases h1
    go_wp2_with fail
    go_ret
    exact ⟨rfl, HB.out⟩
  case true =>
  obtain ⟨wc, hwc⟩ : ∃ wc, wc = w0 := ⟨_, rfl⟩
  have HBX : Hid (Below w0.heap.size w0 wc) := by rw [hwc]; exact Below.refl _ _
  have HKX : Hid (Blk wc w.heap.size 40 (msV m h)) := by show Blk _ _ _ _; rw [hwc]; exact HK.out
  try rw [← hwc]
  clear hwc
  have HMX : Hid (MsIn wc D m h) := HM.out.below HBX.out
  have hz : ((m.ps : Int) == 0) = b1 := by rw [← HZ1.out]; exact (dec_is ⟨fun h => by simp [h], fun h => by simpa using h⟩).symm
  have HC : Hid (∀ u, Calls Try.prog 42 #[.int .u64 (m.ps : Int)] u fun e w' => e = .returned (.bool a1) ∧ u = w') := fun u => by rw [← HA1.out]; exact epos_any m.ps u HM.out.ps1
  go_upto_region 4 with (fail)
  go_cut [24] (fun sx wx => sx = .bool (!q1) ∧ Hid (Below w0.heap.size w0 wx))
  case first =>
    have k3 : ∀ q : Gr wc.heap.size wc, q.val.cell? ⟨w.heap.size, 3, none⟩ = some (.int .u64 (m.ps : Int)) := fun q => (q.is.cell (p := ⟨w.heap.size, 3, none⟩) (show Blk wc w.heap.size _ _ from HKX.out).lt).trans ((show Blk wc w.heap.size _ (msV m h) from HKX.out).cell 3)
    cases H1
    all_goals
      obtain rfl : q1 = _ := HQ1.out
      refine wp_region_grow (by kernel_rfl) (by kernel_rfl) wc.heap.size ?_
      repeat (first | go_big_quiet_step (first | (go_at_call 42; exact Gr.same _ (HC.out _)) | (go_at_call 41; exact Gr.call _ (Nat.le_refl _) (HW1.out _ _ _))) | quiet_step (first | (go_at_call 42; exact Gr.same _ (HC.out _)) | (go_at_call 41; exact Gr.call _ (Nat.le_refl _) (HW1.out _ _ _))))
      refine wpQuiet_nil ?_
      rintro w5 ⟨⟨_, hb5⟩, rfl⟩
      go_wp2_with fail
      go_meet
      exact ⟨rfl, stepB HBX.out hb5⟩
  case rest =>
  obtain ⟨rfl, hbx⟩ := hcut
  clear HBX HKX HMX hz HC
  have HBX := hbx
  have HKX : Hid (Blk wc w.heap.size 40 (msV m h)) := keepB (show Blk w0 w.heap.size 40 _ from HK.out) hbx.out
  clear hbx
  cases q1
  case false =>
    obtain rfl : res = false := by rw [HRES.out]; exact dec_false fun hx => of_not_dec HD1.out.symm hx.2.1
    go_wp2_with fail
    go_ret
    exact ⟨rfl, stepB HB.out HBX.out⟩
  case true =>
  have HMX : Hid (MsIn wc D m h) := HM.out.below HBX.out
  have hz : (m.ct == 0) = b2 := by rw [← HZ2.out]; exact (dec_is ⟨fun h => by simp [h], fun h => by simpa using h⟩).symm
  obtain ⟨x1, hx1⟩ : ∃ x, decide ((1 : Int) ≤ m.ct) = x := ⟨_, rfl⟩
  obtain ⟨x2, hx2⟩ : ∃ x, decide (m.ct ≤ 65536) = x := ⟨_, rfl⟩
  have hxa : a2 = (x1 && x2) := by rw [← HA2.out, ← hx1, ← hx2]; exact dec_is (by simp)
  go_upto_region 5 with (fail)
  go_cut [34] (fun sx wx => sx = .bool (!q2) ∧ Hid (Below w0.heap.size w0 wx))
  case first =>
    have k4 : wc.cell? ⟨w.heap.size, 4, none⟩ = some (.int .i64 m.ct) := (show Blk wc w.heap.size _ (msV m h) from HKX.out).cell 4
    cases H2 <;> cases x1
    all_goals
      have hqq := HQ2.out
      rw [hxa] at hqq
      simp only [cond_true, cond_false, Bool.true_and, Bool.false_and] at hqq
      subst hqq
      go_wp2_with fail
      refine (HW2.out _ _ _).mono ?_; rintro e w5 ⟨rfl, hb5⟩
      go_wp2_with fail
      go_meet
      exact ⟨rfl, stepB HBX.out hb5⟩
  case rest =>
  obtain ⟨rfl, hbx⟩ := hcut
  clear HBX HKX HMX hz hx1 hx2 hxa
  have HBX := hbx
  have HKX : Hid (Blk wc w.heap.size 40 (msV m h)) := keepB (show Blk w0 w.heap.size 40 _ from HK.out) hbx.out
  clear hbx
  cases q2
  case false =>
    obtain rfl : res = false := by rw [HRES.out]; exact dec_false fun hx => of_not_dec HD2.out.symm hx.2.2.1
    go_wp2_with fail
    go_ret
    exact ⟨rfl, stepB HB.out HBX.out⟩
  case true =>
  have HMX : Hid (MsIn wc D m h) := HM.out.below HBX.out
  have hz : (m.st == 0) = b4 := by rw [← HZ4.out]; exact (dec_is ⟨fun h => by simp [h], fun h => by simpa using h⟩).symm
  obtain ⟨x1, hx1⟩ : ∃ x, decide ((1 : Int) ≤ m.st) = x := ⟨_, rfl⟩
  obtain ⟨x2, hx2⟩ : ∃ x, decide (m.st ≤ mostS m.kd) = x := ⟨_, rfl⟩
  have hxa : a4 = (x1 && x2) := by rw [← HA4.out, ← hx1, ← hx2]; exact dec_is (by simp)
  have HC := Lib.hid (fun u => kmost_any m.kd u)
  go_upto_region 6 with (fail)
  go_cut [49] (fun sx wx => sx = .bool (!q4) ∧ Hid (Below w0.heap.size w0 wx))
  case first =>
    have k5 : ∀ q : Gr wc.heap.size wc, q.val.cell? ⟨w.heap.size, 5, none⟩ = some (.int .i64 m.st) := fun q => (q.is.cell (p := ⟨w.heap.size, 5, none⟩) (show Blk wc w.heap.size _ _ from HKX.out).lt).trans ((show Blk wc w.heap.size _ (msV m h) from HKX.out).cell 5)
    cases H4 <;> cases x1
    all_goals
      have hqq := HQ4.out
      rw [hxa] at hqq
      simp only [cond_true, cond_false, Bool.true_and, Bool.false_and] at hqq
      subst hqq
      refine wp_region_grow (by kernel_rfl) (by kernel_rfl) wc.heap.size ?_
      repeat (first | go_big_quiet_step (first | (go_at_call 43; exact Gr.same _ (HC.out _)) | (go_at_call 41; exact Gr.call _ (Nat.le_refl _) (HW4.out _ _ _))) | quiet_step (first | (go_at_call 43; exact Gr.same _ (HC.out _)) | (go_at_call 41; exact Gr.call _ (Nat.le_refl _) (HW4.out _ _ _))))
      refine wpQuiet_nil ?_
      rintro w5 ⟨⟨_, hb5⟩, rfl⟩
      go_wp2_with fail
      go_meet
      exact ⟨rfl, stepB HBX.out hb5⟩
  case rest =>
  obtain ⟨rfl, hbx⟩ := hcut
  clear HBX HKX HMX hz hx1 hx2 hxa HC
  have HBX := hbx
  have HKX : Hid (Blk wc w.heap.size 40 (msV m h)) := keepB (show Blk w0 w.heap.size 40 _ from HK.out) hbx.out
  clear hbx
  cases q4
  case false =>
    obtain rfl : res = false := by rw [HRES.out]; exact dec_false fun hx => of_not_dec HD4.out.symm hx.2.2.2.1
    go_wp2_with fail
    go_ret
    exact ⟨rfl, stepB HB.out HBX.out⟩
  case true =>
  have HMX : Hid (MsIn wc D m h) := HM.out.below HBX.out
  have hz : ((h.n1 : Int) == 0) = b8 := by rw [← HZ8.out]; exact (dec_is (len_zero HN1.out)).symm
  have HC : Hid (∀ u, Below wc.heap.size wc u → Calls Try.prog 44 #[.slice h.A1 h.n1 h.c1] u fun e w' => e = .returned (.bool a8) ∧ Below u.heap.size u w') := fun u hu => by rw [← HA8.out]; exact kstreams_any (HMX.out.below hu).ss (HMX.out.below hu).dom
  go_upto_region 7 with (fail)
  go_cut [66] (fun sx wx => sx = .bool (!q8) ∧ Hid (Below w0.heap.size w0 wx))
  case first =>
    have k6 : ∀ q : Gr wc.heap.size wc, q.val.cell? ⟨w.heap.size, 6, none⟩ = some (.slice h.A1 h.n1 h.c1) := fun q => (q.is.cell (p := ⟨w.heap.size, 6, none⟩) (show Blk wc w.heap.size _ _ from HKX.out).lt).trans ((show Blk wc w.heap.size _ (msV m h) from HKX.out).cell 6)
    cases H8
    all_goals
      obtain rfl : q8 = _ := HQ8.out
      refine wp_region_grow (by kernel_rfl) (by kernel_rfl) wc.heap.size ?_
      repeat (first | go_big_quiet_step (first | (go_at_call 44; exact Gr.call _ (Nat.le_refl _) (HC.out _ (Gr.is _))) | (go_at_call 41; exact Gr.call _ (Nat.le_refl _) (HW8.out _ _ _))) | quiet_step (first | (go_at_call 44; exact Gr.call _ (Nat.le_refl _) (HC.out _ (Gr.is _))) | (go_at_call 41; exact Gr.call _ (Nat.le_refl _) (HW8.out _ _ _))))
      refine wpQuiet_nil ?_
      rintro w5 ⟨⟨_, hb5⟩, rfl⟩
      go_wp2_with fail
      go_meet
      exact ⟨rfl, stepB HBX.out hb5⟩
  case rest =>
  obtain ⟨rfl, hbx⟩ := hcut
  clear HBX HKX HMX hz HC
  have HBX := hbx
  have HKX : Hid (Blk wc w.heap.size 40 (msV m h)) := keepB (show Blk w0 w.heap.size 40 _ from HK.out) hbx.out
  clear hbx
  cases q8
  case false =>
    obtain rfl : res = false := by rw [HRES.out]; exact dec_false fun hx => of_not_dec HD8.out.symm hx.2.2.2.2.1
    go_wp2_with fail
    go_ret
    exact ⟨rfl, stepB HB.out HBX.out⟩
  case true =>
  have HMX : Hid (MsIn wc D m h) := HM.out.below HBX.out
  have hz : ((h.n2 : Int) == 0) = b16 := by rw [← HZ16.out]; exact (dec_is (len_zero HN2.out)).symm
  have HC : Hid (∀ u, Below wc.heap.size wc u → Calls Try.prog 45 #[.int .u64 (m.ps : Int), .slice h.A2 h.n2 h.c2] u fun e w' => e = .returned (.bool a16) ∧ Below u.heap.size u w') := fun u hu => by rw [← HA16.out]; exact lright_any (HMX.out.below hu).ls (HMX.out.below hu).dom HM.out.ps1
  go_upto_region 8 with (fail)
  go_cut [77] (fun sx wx => sx = .bool (!q16) ∧ Hid (Below w0.heap.size w0 wx))
  case first =>
    have k3 : ∀ q : Gr wc.heap.size wc, q.val.cell? ⟨w.heap.size, 3, none⟩ = some (.int .u64 (m.ps : Int)) := fun q => (q.is.cell (p := ⟨w.heap.size, 3, none⟩) (show Blk wc w.heap.size _ _ from HKX.out).lt).trans ((show Blk wc w.heap.size _ (msV m h) from HKX.out).cell 3)
    have k7 : ∀ q : Gr wc.heap.size wc, q.val.cell? ⟨w.heap.size, 7, none⟩ = some (.slice h.A2 h.n2 h.c2) := fun q => (q.is.cell (p := ⟨w.heap.size, 7, none⟩) (show Blk wc w.heap.size _ _ from HKX.out).lt).trans ((show Blk wc w.heap.size _ (msV m h) from HKX.out).cell 7)
    cases H16
    all_goals
      obtain rfl : q16 = _ := HQ16.out
      refine wp_region_grow (by kernel_rfl) (by kernel_rfl) wc.heap.size ?_
      repeat (first | go_big_quiet_step (first | (go_at_call 45; exact Gr.call _ (Nat.le_refl _) (HC.out _ (Gr.is _))) | (go_at_call 41; exact Gr.call _ (Nat.le_refl _) (HW16.out _ _ _))) | quiet_step (first | (go_at_call 45; exact Gr.call _ (Nat.le_refl _) (HC.out _ (Gr.is _))) | (go_at_call 41; exact Gr.call _ (Nat.le_refl _) (HW16.out _ _ _))))
      refine wpQuiet_nil ?_
      rintro w5 ⟨⟨_, hb5⟩, rfl⟩
      go_wp2_with fail
      go_meet
      exact ⟨rfl, stepB HBX.out hb5⟩
  case rest =>
  obtain ⟨rfl, hbx⟩ := hcut
  clear HBX HKX HMX hz HC
  have HBX := hbx
  have HKX : Hid (Blk wc w.heap.size 40 (msV m h)) := keepB (show Blk w0 w.heap.size 40 _ from HK.out) hbx.out
  clear hbx
  cases q16
  case false =>
    obtain rfl : res = false := by rw [HRES.out]; exact dec_false fun hx => of_not_dec HD16.out.symm hx.2.2.2.2.2.1
    go_wp2_with fail
    go_ret
    exact ⟨rfl, stepB HB.out HBX.out⟩
  case true =>
  have HMX : Hid (MsIn wc D m h) := HM.out.below HBX.out
  have HC : Hid (∀ u, Calls Try.prog 46 #[.agg #[.int .u64 (m.se.1 : Int), .int .u64 (m.se.2.1 : Int), .int .u64 (m.se.2.2 : Int)]] u fun e w' => e = .returned (.bool a64) ∧ Below u.heap.size u w') := fun u => by rw [← HA64.out]; exact kseal_any _ _ _ u HM.out.s11
  have hz : ∀ u, (binOp .eql 35 (.agg #[.int .u64 (m.se.1 : Int), .int .u64 (m.se.2.1 : Int), .int .u64 (m.se.2.2 : Int)]) (.agg #[.int .u64 0, .int .u64 0, .int .u64 0])).run Try.prog u = .ok (.bool b64) u := fun u => by
    rw [seal_eql, ← HZ64.out]
    congr 2
    exact (dec_is ⟨fun h => by rw [h]; rfl, fun h => by
      simp only [Bool.and_eq_true, beq_iff_eq] at h
      obtain ⟨h1, h2, h3⟩ := h
      refine Prod.ext (by simp only; omega) (Prod.ext (by simp only; omega) (by simp only; omega))⟩).symm
  have hsg := seal_guard
  go_upto_region 9 with (fail)
  go_cut [90] (fun sx wx => sx = .bool (!q64) ∧ Hid (Below w0.heap.size w0 wx))
  case first =>
    have k9 : ∀ q : Gr wc.heap.size wc, q.val.cell? ⟨w.heap.size, 9, none⟩ = some (.int .u64 (m.se.1 : Int)) := fun q => (q.is.cell (p := ⟨w.heap.size, 9, none⟩) (show Blk wc w.heap.size _ _ from HKX.out).lt).trans ((show Blk wc w.heap.size _ (msV m h) from HKX.out).cell 9)
    have k10 : ∀ q : Gr wc.heap.size wc, q.val.cell? ⟨w.heap.size, 10, none⟩ = some (.int .u64 (m.se.2.1 : Int)) := fun q => (q.is.cell (p := ⟨w.heap.size, 10, none⟩) (show Blk wc w.heap.size _ _ from HKX.out).lt).trans ((show Blk wc w.heap.size _ (msV m h) from HKX.out).cell 10)
    have k11 : ∀ q : Gr wc.heap.size wc, q.val.cell? ⟨w.heap.size, 11, none⟩ = some (.int .u64 (m.se.2.2 : Int)) := fun q => (q.is.cell (p := ⟨w.heap.size, 11, none⟩) (show Blk wc w.heap.size _ _ from HKX.out).lt).trans ((show Blk wc w.heap.size _ (msV m h) from HKX.out).cell 11)
    cases H64
    all_goals
      obtain rfl : q64 = _ := HQ64.out
      refine wp_region_grow (by kernel_rfl) (by kernel_rfl) wc.heap.size ?_
      repeat (first | go_big_quiet_step (first | (go_at_call 46; exact Gr.call _ (Nat.le_refl _) (HC.out _)) | (go_at_call 41; exact Gr.call _ (Nat.le_refl _) (HW64.out _ _ _))) | quiet_step (first | (go_at_call 46; exact Gr.call _ (Nat.le_refl _) (HC.out _)) | (go_at_call 41; exact Gr.call _ (Nat.le_refl _) (HW64.out _ _ _))))
      refine wpQuiet_nil ?_
      rintro w5 ⟨⟨_, hb5⟩, rfl⟩
      go_wp2_with fail
      go_meet
      exact ⟨rfl, stepB HBX.out hb5⟩
  case rest =>
  obtain ⟨rfl, hbx⟩ := hcut
  clear HBX HKX HMX hsg hz HC
  have HBX := hbx
  have HKX : Hid (Blk wc w.heap.size 40 (msV m h)) := keepB (show Blk w0 w.heap.size 40 _ from HK.out) hbx.out
  clear hbx
  cases q64
  case false =>
    obtain rfl : res = false := by rw [HRES.out]; exact dec_false fun hx => of_not_dec HD64.out.symm hx.2.2.2.2.2.2.1
    go_wp2_with fail
    go_ret
    exact ⟨rfl, stepB HB.out HBX.out⟩
  case true =>
  have HMX : Hid (MsIn wc D m h) := HM.out.below HBX.out
  obtain ⟨x1, hx1⟩ : ∃ x, ((m.pr.1 : Int) == 0) = x := ⟨_, rfl⟩
  obtain ⟨x2, hx2⟩ : ∃ x, ((h.n4 : Int) == 0) = x := ⟨_, rfl⟩
  have hxb : b128 = (x1 && x2) := by rw [← HZ128.out, ← hx1, ← hx2]; exact dec_is (by rw [Bool.and_eq_true]; exact and_congr ⟨fun h => by simp [h], fun h => by simpa using h⟩ (len_zero HN4.out))
  have HC : Hid (∀ u, Below wc.heap.size wc u → Calls Try.prog 47 #[.agg (prjV m.pr.1 h.A4 h.n4 h.c4)] u fun e w' => e = .returned (.bool a128) ∧ Below u.heap.size u w') := fun u hu => by rw [← HA128.out]; exact pright_any (HMX.out.below hu).pr (HMX.out.below hu).dom HM.out.pe1
  go_upto_region 10 with (fail)
  go_cut [101] (fun sx wx => sx = .bool (!q128) ∧ Hid (Below w0.heap.size w0 wx))
  case first =>
    have k12 : ∀ q : Gr wc.heap.size wc, q.val.cell? ⟨w.heap.size, 12, none⟩ = some (.int .u64 (m.pr.1 : Int)) := fun q => (q.is.cell (p := ⟨w.heap.size, 12, none⟩) (show Blk wc w.heap.size _ _ from HKX.out).lt).trans ((show Blk wc w.heap.size _ (msV m h) from HKX.out).cell 12)
    have k13 : ∀ q : Gr wc.heap.size wc, q.val.cell? ⟨w.heap.size, 13, none⟩ = some (.slice h.A4 h.n4 h.c4) := fun q => (q.is.cell (p := ⟨w.heap.size, 13, none⟩) (show Blk wc w.heap.size _ _ from HKX.out).lt).trans ((show Blk wc w.heap.size _ (msV m h) from HKX.out).cell 13)
    cases H128 <;> cases x1
    all_goals
      have hqq := HQ128.out
      rw [hxb] at hqq
      simp only [cond_true, cond_false, Bool.true_and, Bool.false_and] at hqq
      subst hqq
      refine wp_region_grow (by kernel_rfl) (by kernel_rfl) wc.heap.size ?_
      repeat (first | go_big_quiet_step (first | (go_at_call 47; exact Gr.call _ (Nat.le_refl _) (HC.out _ (Gr.is _))) | (go_at_call 41; exact Gr.call _ (Nat.le_refl _) (HW128.out _ _ _))) | quiet_step (first | (go_at_call 47; exact Gr.call _ (Nat.le_refl _) (HC.out _ (Gr.is _))) | (go_at_call 41; exact Gr.call _ (Nat.le_refl _) (HW128.out _ _ _))))
      refine wpQuiet_nil ?_
      rintro w5 ⟨⟨_, hb5⟩, rfl⟩
      go_wp2_with fail
      go_meet
      exact ⟨rfl, stepB HBX.out hb5⟩
  case rest =>
  obtain ⟨rfl, hbx⟩ := hcut
  clear HBX HKX HMX hx1 hx2 hxb HC
  have HBX := hbx
  have HKX : Hid (Blk wc w.heap.size 40 (msV m h)) := keepB (show Blk w0 w.heap.size 40 _ from HK.out) hbx.out
  clear hbx
  cases q128
  case false =>
    obtain rfl : res = false := by rw [HRES.out]; exact dec_false fun hx => of_not_dec HD128.out.symm hx.2.2.2.2.2.2.2.1
    go_wp2_with fail
    go_ret
    exact ⟨rfl, stepB HB.out HBX.out⟩
  case true =>
  obtain ⟨dl, hdl⟩ : ∃ x, ((h.n3 : Int) == 0) = x := ⟨_, rfl⟩
  obtain ⟨hdt, hhd⟩ : ∃ x, dec (Blocked m) = x := ⟨_, rfl⟩
  obtain ⟨le, hle⟩ : ∃ x, decide ((h.n3 : Int) ≤ 1048576) = x := ⟨_, rfl⟩
  have hall : res = (dl || (hdt && le)) := by
    rw [HRES.out, ← hdl, ← hhd, ← hle]
    refine dec_is ⟨fun hx => ?_, fun hx => ⟨HR0.out, of_dec HD1.out.symm, of_dec HD2.out.symm, of_dec HD4.out.symm, of_dec HD8.out.symm, of_dec HD16.out.symm, of_dec HD64.out.symm, of_dec HD128.out.symm, ?_⟩⟩
    · have hn := HN3.out
      rcases hx.2.2.2.2.2.2.2.2 with h1 | ⟨h1, h2⟩
      · rw [(len_zero hn).1 h1]; rfl
      · have e1 := dec_true h1
        have e2 : decide ((h.n3 : Int) ≤ 1048576) = true := by simp; omega
        rw [e1, e2]; simp
    · have hn := HN3.out
      rw [Bool.or_eq_true, Bool.and_eq_true] at hx
      rcases hx with h1 | ⟨h1, h2⟩
      · exact .inl ((len_zero hn).2 h1)
      · have e2 : (h.n3 : Int) ≤ 1048576 := by simpa using h2
        exact .inr ⟨of_dec h1, by omega⟩
  have HHD : Hid (∀ u, Below w0.heap.size w0 u → Calls Try.prog 48 #[.agg (msV m h)] u fun e w' => e = .returned (.bool hdt) ∧ Below u.heap.size u w') := fun u hu => by rw [← hhd]; exact khasdata_any (HM.out.below hu)
  clear hhd
  have k0 : wc.cell? ⟨w.heap.size, 0, none⟩ = some (.int .i64 m.kd) := (show Blk wc w.heap.size _ (msV m h) from HKX.out).cell 0
  have k1 : wc.cell? ⟨w.heap.size, 1, none⟩ = some (.int .u64 (m.ep : Int)) := (show Blk wc w.heap.size _ (msV m h) from HKX.out).cell 1
  have k2 : wc.cell? ⟨w.heap.size, 2, none⟩ = some (.int .u64 (m.sq : Int)) := (show Blk wc w.heap.size _ (msV m h) from HKX.out).cell 2
  have k3 : wc.cell? ⟨w.heap.size, 3, none⟩ = some (.int .u64 (m.ps : Int)) := (show Blk wc w.heap.size _ (msV m h) from HKX.out).cell 3
  have k4 : wc.cell? ⟨w.heap.size, 4, none⟩ = some (.int .i64 m.ct) := (show Blk wc w.heap.size _ (msV m h) from HKX.out).cell 4
  have k5 : wc.cell? ⟨w.heap.size, 5, none⟩ = some (.int .i64 m.st) := (show Blk wc w.heap.size _ (msV m h) from HKX.out).cell 5
  have k6 : wc.cell? ⟨w.heap.size, 6, none⟩ = some (.slice h.A1 h.n1 h.c1) := (show Blk wc w.heap.size _ (msV m h) from HKX.out).cell 6
  have k7 : wc.cell? ⟨w.heap.size, 7, none⟩ = some (.slice h.A2 h.n2 h.c2) := (show Blk wc w.heap.size _ (msV m h) from HKX.out).cell 7
  have k8 : wc.cell? ⟨w.heap.size, 8, none⟩ = some (.slice h.A3 h.n3 h.c3) := (show Blk wc w.heap.size _ (msV m h) from HKX.out).cell 8
  have k9 : wc.cell? ⟨w.heap.size, 9, none⟩ = some (.int .u64 (m.se.1 : Int)) := (show Blk wc w.heap.size _ (msV m h) from HKX.out).cell 9
  have k10 : wc.cell? ⟨w.heap.size, 10, none⟩ = some (.int .u64 (m.se.2.1 : Int)) := (show Blk wc w.heap.size _ (msV m h) from HKX.out).cell 10
  have k11 : wc.cell? ⟨w.heap.size, 11, none⟩ = some (.int .u64 (m.se.2.2 : Int)) := (show Blk wc w.heap.size _ (msV m h) from HKX.out).cell 11
  have k12 : wc.cell? ⟨w.heap.size, 12, none⟩ = some (.int .u64 (m.pr.1 : Int)) := (show Blk wc w.heap.size _ (msV m h) from HKX.out).cell 12
  have k13 : wc.cell? ⟨w.heap.size, 13, none⟩ = some (.slice h.A4 h.n4 h.c4) := (show Blk wc w.heap.size _ (msV m h) from HKX.out).cell 13
  cases dl
  case true =>
    obtain rfl : res = true := by rw [hall]; rfl
    clear hall hle
    go_wp2_with fail
    go_ret
    exact ⟨rfl, stepB HB.out HBX.out⟩
  case false =>
  go_wp2_with fail
  refine (HHD.out _ HBX.out).mono ?_; rintro e w5 ⟨rfl, hb5⟩
  clear k0 k1 k2 k3 k4 k5 k6 k7 k8 k9 k10 k11 k12 k13
  have hk5 := keepB (show Blk wc w.heap.size 40 (msV m h) from HKX.out) hb5
  have k8 : w5.cell? ⟨w.heap.size, 8, none⟩ = some (.slice h.A3 h.n3 h.c3) := hk5.cell 8
  have HB5 := Lib.hid (stepB HBX.out hb5)
  clear hk5 hb5
  cases hdt
  case false =>
    obtain rfl : res = false := by rw [hall]; rfl
    clear hall hle
    go_wp2_with fail
    go_ret
    exact ⟨rfl, stepB HB.out HB5.out⟩
  case true =>
    obtain rfl : res = le := by rw [hall]; rfl
    clear hall
    go_wp2_with fail
    go_ret
    exact ⟨rfl, stepB HB.out HB5.out⟩
set_option maxRecDepth 100000 in
theorem mright_any (hm : MsIn w D m h) : Calls Try.prog 16 #[.agg (msV m h)] w fun e w' => e = .returned (.bool (dec (MOk m))) ∧ Below w.heap.size w w' := by
  have hb0 := below1 w (.cells (msV m h) 40)
  have HB := Lib.hid hb0
  have HK := Lib.hid (blk11 w 40 (msV m h))
  obtain ⟨bb, hbb⟩ : ∃ b, dec (BOk m) = b := ⟨_, rfl⟩
  obtain ⟨ee, hee⟩ : ∃ b, dec (EOk m.ep) = b := ⟨_, rfl⟩
  obtain ⟨res, hres⟩ : ∃ b, dec (MOk m) = b := ⟨_, rfl⟩
  have hall : res = (bb && ee) := by
    rw [← hres, ← hbb, ← hee]
    refine dec_is ?_
    rw [Bool.and_eq_true]
    exact ⟨fun h => ⟨dec_true h.1, dec_true h.2⟩, fun h => ⟨of_dec h.1, of_dec h.2⟩⟩
  have HBR := bright_any (hm.below hb0)
  rw [hbb] at HBR
  have HBR' := Lib.hid HBR
  have HER := Lib.hid (fun u => eright_any m.ep u hm.ep1)
  rw [hee] at HER
  rw [hres]
  clear HBR hbb hee hres hb0
  go_enter Try.func16, Try.ntmps16
  go_upto_region 1 with (fail)
  generalize World.alloc w _ = w0 at *
  have k0 : w0.cell? ⟨w.heap.size, 0, none⟩ = some (.int .i64 m.kd) := (show Blk w0 w.heap.size _ (msV m h) from HK.out).cell 0
  have k1 : w0.cell? ⟨w.heap.size, 1, none⟩ = some (.int .u64 (m.ep : Int)) := (show Blk w0 w.heap.size _ (msV m h) from HK.out).cell 1
  have k2 : w0.cell? ⟨w.heap.size, 2, none⟩ = some (.int .u64 (m.sq : Int)) := (show Blk w0 w.heap.size _ (msV m h) from HK.out).cell 2
  have k3 : w0.cell? ⟨w.heap.size, 3, none⟩ = some (.int .u64 (m.ps : Int)) := (show Blk w0 w.heap.size _ (msV m h) from HK.out).cell 3
  have k4 : w0.cell? ⟨w.heap.size, 4, none⟩ = some (.int .i64 m.ct) := (show Blk w0 w.heap.size _ (msV m h) from HK.out).cell 4
  have k5 : w0.cell? ⟨w.heap.size, 5, none⟩ = some (.int .i64 m.st) := (show Blk w0 w.heap.size _ (msV m h) from HK.out).cell 5
  have k6 : w0.cell? ⟨w.heap.size, 6, none⟩ = some (.slice h.A1 h.n1 h.c1) := (show Blk w0 w.heap.size _ (msV m h) from HK.out).cell 6
  have k7 : w0.cell? ⟨w.heap.size, 7, none⟩ = some (.slice h.A2 h.n2 h.c2) := (show Blk w0 w.heap.size _ (msV m h) from HK.out).cell 7
  have k8 : w0.cell? ⟨w.heap.size, 8, none⟩ = some (.slice h.A3 h.n3 h.c3) := (show Blk w0 w.heap.size _ (msV m h) from HK.out).cell 8
  have k9 : w0.cell? ⟨w.heap.size, 9, none⟩ = some (.int .u64 (m.se.1 : Int)) := (show Blk w0 w.heap.size _ (msV m h) from HK.out).cell 9
  have k10 : w0.cell? ⟨w.heap.size, 10, none⟩ = some (.int .u64 (m.se.2.1 : Int)) := (show Blk w0 w.heap.size _ (msV m h) from HK.out).cell 10
  have k11 : w0.cell? ⟨w.heap.size, 11, none⟩ = some (.int .u64 (m.se.2.2 : Int)) := (show Blk w0 w.heap.size _ (msV m h) from HK.out).cell 11
  have k12 : w0.cell? ⟨w.heap.size, 12, none⟩ = some (.int .u64 (m.pr.1 : Int)) := (show Blk w0 w.heap.size _ (msV m h) from HK.out).cell 12
  have k13 : w0.cell? ⟨w.heap.size, 13, none⟩ = some (.slice h.A4 h.n4 h.c4) := (show Blk w0 w.heap.size _ (msV m h) from HK.out).cell 13
  go_wp2_with fail
  refine HBR'.out.mono ?_; rintro e w1 ⟨rfl, hb1⟩
  have hk1 := keepB (show Blk w0 w.heap.size 40 (msV m h) from HK.out) hb1
  have HB1 := Lib.hid (stepB HB.out hb1)
  clear k0 k1 k2 k3 k4 k5 k6 k7 k8 k9 k10 k11 k12 k13 hb1
  have k1 : w1.cell? ⟨w.heap.size, 1, none⟩ = some (.int .u64 (m.ep : Int)) := hk1.cell 1
  clear hk1
  cases bb
  case false =>
    obtain rfl : res = false := by rw [hall]; rfl
    clear hall
    go_wp2_with fail
    go_ret
    exact ⟨rfl, HB1.out⟩
  case true =>
    obtain rfl : res = ee := by rw [hall]; rfl
    clear hall
    go_wp2_with fail
    refine (HER.out _).mono ?_; rintro e w2 ⟨rfl, rfl⟩
    go_wp2_with fail
    go_ret
    exact ⟨rfl, HB1.out⟩
end
end Go.Proofs.Ytnihaaifkogpbaa
