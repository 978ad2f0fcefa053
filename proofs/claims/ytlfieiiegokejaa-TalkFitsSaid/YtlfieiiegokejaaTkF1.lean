/- The walk of TalkFits. -/
import Derived.Test.YtlfieiiegokejaaTkOp
import Derived.Test.YtlfieiiegokejaaTkZ
import Derived.Test.YtlfieiiegokejaaTkG
import Derived.Test.YtlfieiiegokejaaTkLv
namespace Go.Proofs.Ytlfieiiegokejaa
open Go.ChangeShapes Go.WideShapes Go.ChangeAt Go.RowKit
set_option linter.unusedVariables false
set_option maxRecDepth 100000 in
set_option maxHeartbeats 4000000 in
theorem talkFits_any (cs0 : Array Value) (q : Ms) (cs1 : Array Value) (a : Ms) (w : World) (h0 : rpMs.ok w (lt w.heap.size) q cs0.toList) (h1 : rpMs.ok w (lt w.heap.size) a cs1.toList) :
    Calls Try.prog 3 #[.agg cs0, .agg cs1] w fun e w' => e = .returned (.bool true) ∧ Below w.heap.size w w' := by
  obtain ⟨hq, rfl, hmq⟩ := msg_open (fun k hk => hk) h0
  obtain ⟨ha, rfl, hma⟩ := msg_open (fun k hk => hk) h1
  have hb0 := below2 w (.cells (msV q hq) 32) (.cells (msV a ha) 32)
  have HB := Lib.hid hb0
  have KQ := Lib.hid (blk21 w 32 32 (msV q hq) (msV a ha))
  have KA := Lib.hid (blk22 w 32 32 (msV q hq) (msV a ha))
  have HQ := Lib.hid (hmq.below hb0)
  have HA := Lib.hid (hma.below hb0)
  clear hb0 hmq hma h0 h1
  go_enter Try.func3, Try.ntmps3
  go_upto_region 1 with (fail)
  generalize World.alloc (World.alloc w _) _ = w0 at *
  have z0 : w0.cell? ⟨w.heap.size, 0, none⟩ = some (.int .i64 q.kd) := (show Blk w0 (w.heap.size) 32 (msV q hq) from KQ.out).cell 0
  have z1 : w0.cell? ⟨w.heap.size, 1, none⟩ = some (.int .u64 (q.ep : Int)) := (show Blk w0 (w.heap.size) 32 (msV q hq) from KQ.out).cell 1
  have z2 : w0.cell? ⟨w.heap.size, 2, none⟩ = some (.int .u64 (q.sq : Int)) := (show Blk w0 (w.heap.size) 32 (msV q hq) from KQ.out).cell 2
  have z3 : w0.cell? ⟨w.heap.size, 3, none⟩ = some (.int .u64 (q.ps : Int)) := (show Blk w0 (w.heap.size) 32 (msV q hq) from KQ.out).cell 3
  have z4 : w0.cell? ⟨w.heap.size, 4, none⟩ = some (.int .i64 q.ct) := (show Blk w0 (w.heap.size) 32 (msV q hq) from KQ.out).cell 4
  have z5 : w0.cell? ⟨w.heap.size, 5, none⟩ = some (.int .i64 q.st) := (show Blk w0 (w.heap.size) 32 (msV q hq) from KQ.out).cell 5
  have z6 : w0.cell? ⟨w.heap.size, 6, none⟩ = some (.slice hq.A1 hq.n1 hq.c1) := (show Blk w0 (w.heap.size) 32 (msV q hq) from KQ.out).cell 6
  have z7 : w0.cell? ⟨w.heap.size, 7, none⟩ = some (.slice hq.A2 hq.n2 hq.c2) := (show Blk w0 (w.heap.size) 32 (msV q hq) from KQ.out).cell 7
  have z8 : w0.cell? ⟨w.heap.size, 8, none⟩ = some (.slice hq.A3 hq.n3 hq.c3) := (show Blk w0 (w.heap.size) 32 (msV q hq) from KQ.out).cell 8
  have z9 : w0.cell? ⟨w.heap.size, 9, none⟩ = some (.int .u64 (q.se.1 : Int)) := (show Blk w0 (w.heap.size) 32 (msV q hq) from KQ.out).cell 9
  have z10 : w0.cell? ⟨w.heap.size, 10, none⟩ = some (.int .u64 (q.se.2.1 : Int)) := (show Blk w0 (w.heap.size) 32 (msV q hq) from KQ.out).cell 10
  have z11 : w0.cell? ⟨w.heap.size, 11, none⟩ = some (.int .u64 (q.se.2.2 : Int)) := (show Blk w0 (w.heap.size) 32 (msV q hq) from KQ.out).cell 11
  have z12 : w0.cell? ⟨w.heap.size, 12, none⟩ = some (.int .u64 (q.pr.1 : Int)) := (show Blk w0 (w.heap.size) 32 (msV q hq) from KQ.out).cell 12
  have z13 : w0.cell? ⟨w.heap.size, 13, none⟩ = some (.slice hq.A4 hq.n4 hq.c4) := (show Blk w0 (w.heap.size) 32 (msV q hq) from KQ.out).cell 13
  have HL1 := Lib.hid (mlong_any HQ.out)
  go_wp2_with fail
  refine HL1.out.mono ?_; rintro e w1 ⟨b1, rfl, hb1⟩
  have HB1 := Lib.hid (stepB HB.out hb1)
  have KQ1 := Lib.hid (keepB (show Blk w0 w.heap.size 32 (msV q hq) from KQ.out) hb1)
  have KA1 := Lib.hid (keepB (show Blk w0 (w.heap.size + 1) 32 (msV a ha) from KA.out) hb1)
  have HQ1 := Lib.hid (HQ.out.below hb1)
  have HA1 := Lib.hid (HA.out.below hb1)
  clear hb1
  clear z0 z1 z2 z3 z4 z5 z6 z7 z8 z9 z10 z11 z12 z13
  cases b1
  case true =>
    go_wp2_with fail
    refine (live30_any _).mono ?_; rintro e wl ⟨rfl, hbl⟩
    have HBL := Lib.hid (stepB HB1.out hbl)
    clear hbl
    go_wp2_with fail
    go_ret
    exact ⟨rfl, HBL.out⟩
  case false =>
  have z0 : w1.cell? ⟨w.heap.size + 1, 0, none⟩ = some (.int .i64 a.kd) := (show Blk w1 (w.heap.size + 1) 32 (msV a ha) from KA1.out).cell 0
  have z1 : w1.cell? ⟨w.heap.size + 1, 1, none⟩ = some (.int .u64 (a.ep : Int)) := (show Blk w1 (w.heap.size + 1) 32 (msV a ha) from KA1.out).cell 1
  have z2 : w1.cell? ⟨w.heap.size + 1, 2, none⟩ = some (.int .u64 (a.sq : Int)) := (show Blk w1 (w.heap.size + 1) 32 (msV a ha) from KA1.out).cell 2
  have z3 : w1.cell? ⟨w.heap.size + 1, 3, none⟩ = some (.int .u64 (a.ps : Int)) := (show Blk w1 (w.heap.size + 1) 32 (msV a ha) from KA1.out).cell 3
  have z4 : w1.cell? ⟨w.heap.size + 1, 4, none⟩ = some (.int .i64 a.ct) := (show Blk w1 (w.heap.size + 1) 32 (msV a ha) from KA1.out).cell 4
  have z5 : w1.cell? ⟨w.heap.size + 1, 5, none⟩ = some (.int .i64 a.st) := (show Blk w1 (w.heap.size + 1) 32 (msV a ha) from KA1.out).cell 5
  have z6 : w1.cell? ⟨w.heap.size + 1, 6, none⟩ = some (.slice ha.A1 ha.n1 ha.c1) := (show Blk w1 (w.heap.size + 1) 32 (msV a ha) from KA1.out).cell 6
  have z7 : w1.cell? ⟨w.heap.size + 1, 7, none⟩ = some (.slice ha.A2 ha.n2 ha.c2) := (show Blk w1 (w.heap.size + 1) 32 (msV a ha) from KA1.out).cell 7
  have z8 : w1.cell? ⟨w.heap.size + 1, 8, none⟩ = some (.slice ha.A3 ha.n3 ha.c3) := (show Blk w1 (w.heap.size + 1) 32 (msV a ha) from KA1.out).cell 8
  have z9 : w1.cell? ⟨w.heap.size + 1, 9, none⟩ = some (.int .u64 (a.se.1 : Int)) := (show Blk w1 (w.heap.size + 1) 32 (msV a ha) from KA1.out).cell 9
  have z10 : w1.cell? ⟨w.heap.size + 1, 10, none⟩ = some (.int .u64 (a.se.2.1 : Int)) := (show Blk w1 (w.heap.size + 1) 32 (msV a ha) from KA1.out).cell 10
  have z11 : w1.cell? ⟨w.heap.size + 1, 11, none⟩ = some (.int .u64 (a.se.2.2 : Int)) := (show Blk w1 (w.heap.size + 1) 32 (msV a ha) from KA1.out).cell 11
  have z12 : w1.cell? ⟨w.heap.size + 1, 12, none⟩ = some (.int .u64 (a.pr.1 : Int)) := (show Blk w1 (w.heap.size + 1) 32 (msV a ha) from KA1.out).cell 12
  have z13 : w1.cell? ⟨w.heap.size + 1, 13, none⟩ = some (.slice ha.A4 ha.n4 ha.c4) := (show Blk w1 (w.heap.size + 1) 32 (msV a ha) from KA1.out).cell 13
  have HL2 := Lib.hid (mlong_any HA1.out)
  go_wp2_with fail
  refine HL2.out.mono ?_; rintro e w2 ⟨b2, rfl, hb2⟩
  have HB2 := Lib.hid (stepB HB1.out hb2)
  have KQ2 := Lib.hid (keepB (show Blk w1 w.heap.size 32 (msV q hq) from KQ1.out) hb2)
  have KA2 := Lib.hid (keepB (show Blk w1 (w.heap.size + 1) 32 (msV a ha) from KA1.out) hb2)
  have HQ2 := Lib.hid (HQ1.out.below hb2)
  have HA2 := Lib.hid (HA1.out.below hb2)
  clear hb2
  clear z0 z1 z2 z3 z4 z5 z6 z7 z8 z9 z10 z11 z12 z13
  cases b2
  case true =>
    go_wp2_with fail
    refine (live30_any _).mono ?_; rintro e wl ⟨rfl, hbl⟩
    have HBL := Lib.hid (stepB HB2.out hbl)
    clear hbl
    go_wp2_with fail
    go_ret
    exact ⟨rfl, HBL.out⟩
  case false =>
  obtain ⟨r, hr⟩ : ∃ r, fitsC q a = r := ⟨_, rfl⟩
  have HK : Hid (∀ x : Gr w2.heap.size w2, Calls Try.prog 9 #[.agg (msV q hq), .agg (msV a ha)] x.val fun e w' => e = .returned (.int .i64 r) ∧ Below x.val.heap.size x.val w') := fun x => by
    have h := kfits_any (HQ2.out.below x.is) (HA2.out.below x.is)
    rw [hr] at h; exact h
  have HR : Hid (∀ x : Gr w2.heap.size w2, Calls Try.prog 10 #[.agg (msV q hq), .agg (msV a ha)] x.val fun e w' => e = .returned (.int .i64 r) ∧ Below x.val.heap.size x.val w') := fun x => by
    have h := rfits_any (HQ2.out.below x.is) (HA2.out.below x.is)
    rw [hr] at h; exact h
  clear hr
  have z0 : ∀ x : Gr w2.heap.size w2, x.val.cell? ⟨w.heap.size, 0, none⟩ = some (.int .i64 q.kd) := fun x => (keepB (show Blk w2 (w.heap.size) 32 (msV q hq) from KQ2.out) x.is).cell 0
  have z1 : ∀ x : Gr w2.heap.size w2, x.val.cell? ⟨w.heap.size, 1, none⟩ = some (.int .u64 (q.ep : Int)) := fun x => (keepB (show Blk w2 (w.heap.size) 32 (msV q hq) from KQ2.out) x.is).cell 1
  have z2 : ∀ x : Gr w2.heap.size w2, x.val.cell? ⟨w.heap.size, 2, none⟩ = some (.int .u64 (q.sq : Int)) := fun x => (keepB (show Blk w2 (w.heap.size) 32 (msV q hq) from KQ2.out) x.is).cell 2
  have z3 : ∀ x : Gr w2.heap.size w2, x.val.cell? ⟨w.heap.size, 3, none⟩ = some (.int .u64 (q.ps : Int)) := fun x => (keepB (show Blk w2 (w.heap.size) 32 (msV q hq) from KQ2.out) x.is).cell 3
  have z4 : ∀ x : Gr w2.heap.size w2, x.val.cell? ⟨w.heap.size, 4, none⟩ = some (.int .i64 q.ct) := fun x => (keepB (show Blk w2 (w.heap.size) 32 (msV q hq) from KQ2.out) x.is).cell 4
  have z5 : ∀ x : Gr w2.heap.size w2, x.val.cell? ⟨w.heap.size, 5, none⟩ = some (.int .i64 q.st) := fun x => (keepB (show Blk w2 (w.heap.size) 32 (msV q hq) from KQ2.out) x.is).cell 5
  have z6 : ∀ x : Gr w2.heap.size w2, x.val.cell? ⟨w.heap.size, 6, none⟩ = some (.slice hq.A1 hq.n1 hq.c1) := fun x => (keepB (show Blk w2 (w.heap.size) 32 (msV q hq) from KQ2.out) x.is).cell 6
  have z7 : ∀ x : Gr w2.heap.size w2, x.val.cell? ⟨w.heap.size, 7, none⟩ = some (.slice hq.A2 hq.n2 hq.c2) := fun x => (keepB (show Blk w2 (w.heap.size) 32 (msV q hq) from KQ2.out) x.is).cell 7
  have z8 : ∀ x : Gr w2.heap.size w2, x.val.cell? ⟨w.heap.size, 8, none⟩ = some (.slice hq.A3 hq.n3 hq.c3) := fun x => (keepB (show Blk w2 (w.heap.size) 32 (msV q hq) from KQ2.out) x.is).cell 8
  have z9 : ∀ x : Gr w2.heap.size w2, x.val.cell? ⟨w.heap.size, 9, none⟩ = some (.int .u64 (q.se.1 : Int)) := fun x => (keepB (show Blk w2 (w.heap.size) 32 (msV q hq) from KQ2.out) x.is).cell 9
  have z10 : ∀ x : Gr w2.heap.size w2, x.val.cell? ⟨w.heap.size, 10, none⟩ = some (.int .u64 (q.se.2.1 : Int)) := fun x => (keepB (show Blk w2 (w.heap.size) 32 (msV q hq) from KQ2.out) x.is).cell 10
  have z11 : ∀ x : Gr w2.heap.size w2, x.val.cell? ⟨w.heap.size, 11, none⟩ = some (.int .u64 (q.se.2.2 : Int)) := fun x => (keepB (show Blk w2 (w.heap.size) 32 (msV q hq) from KQ2.out) x.is).cell 11
  have z12 : ∀ x : Gr w2.heap.size w2, x.val.cell? ⟨w.heap.size, 12, none⟩ = some (.int .u64 (q.pr.1 : Int)) := fun x => (keepB (show Blk w2 (w.heap.size) 32 (msV q hq) from KQ2.out) x.is).cell 12
  have z13 : ∀ x : Gr w2.heap.size w2, x.val.cell? ⟨w.heap.size, 13, none⟩ = some (.slice hq.A4 hq.n4 hq.c4) := fun x => (keepB (show Blk w2 (w.heap.size) 32 (msV q hq) from KQ2.out) x.is).cell 13
  have y0 : ∀ x : Gr w2.heap.size w2, x.val.cell? ⟨w.heap.size + 1, 0, none⟩ = some (.int .i64 a.kd) := fun x => (keepB (show Blk w2 (w.heap.size + 1) 32 (msV a ha) from KA2.out) x.is).cell 0
  have y1 : ∀ x : Gr w2.heap.size w2, x.val.cell? ⟨w.heap.size + 1, 1, none⟩ = some (.int .u64 (a.ep : Int)) := fun x => (keepB (show Blk w2 (w.heap.size + 1) 32 (msV a ha) from KA2.out) x.is).cell 1
  have y2 : ∀ x : Gr w2.heap.size w2, x.val.cell? ⟨w.heap.size + 1, 2, none⟩ = some (.int .u64 (a.sq : Int)) := fun x => (keepB (show Blk w2 (w.heap.size + 1) 32 (msV a ha) from KA2.out) x.is).cell 2
  have y3 : ∀ x : Gr w2.heap.size w2, x.val.cell? ⟨w.heap.size + 1, 3, none⟩ = some (.int .u64 (a.ps : Int)) := fun x => (keepB (show Blk w2 (w.heap.size + 1) 32 (msV a ha) from KA2.out) x.is).cell 3
  have y4 : ∀ x : Gr w2.heap.size w2, x.val.cell? ⟨w.heap.size + 1, 4, none⟩ = some (.int .i64 a.ct) := fun x => (keepB (show Blk w2 (w.heap.size + 1) 32 (msV a ha) from KA2.out) x.is).cell 4
  have y5 : ∀ x : Gr w2.heap.size w2, x.val.cell? ⟨w.heap.size + 1, 5, none⟩ = some (.int .i64 a.st) := fun x => (keepB (show Blk w2 (w.heap.size + 1) 32 (msV a ha) from KA2.out) x.is).cell 5
  have y6 : ∀ x : Gr w2.heap.size w2, x.val.cell? ⟨w.heap.size + 1, 6, none⟩ = some (.slice ha.A1 ha.n1 ha.c1) := fun x => (keepB (show Blk w2 (w.heap.size + 1) 32 (msV a ha) from KA2.out) x.is).cell 6
  have y7 : ∀ x : Gr w2.heap.size w2, x.val.cell? ⟨w.heap.size + 1, 7, none⟩ = some (.slice ha.A2 ha.n2 ha.c2) := fun x => (keepB (show Blk w2 (w.heap.size + 1) 32 (msV a ha) from KA2.out) x.is).cell 7
  have y8 : ∀ x : Gr w2.heap.size w2, x.val.cell? ⟨w.heap.size + 1, 8, none⟩ = some (.slice ha.A3 ha.n3 ha.c3) := fun x => (keepB (show Blk w2 (w.heap.size + 1) 32 (msV a ha) from KA2.out) x.is).cell 8
  have y9 : ∀ x : Gr w2.heap.size w2, x.val.cell? ⟨w.heap.size + 1, 9, none⟩ = some (.int .u64 (a.se.1 : Int)) := fun x => (keepB (show Blk w2 (w.heap.size + 1) 32 (msV a ha) from KA2.out) x.is).cell 9
  have y10 : ∀ x : Gr w2.heap.size w2, x.val.cell? ⟨w.heap.size + 1, 10, none⟩ = some (.int .u64 (a.se.2.1 : Int)) := fun x => (keepB (show Blk w2 (w.heap.size + 1) 32 (msV a ha) from KA2.out) x.is).cell 10
  have y11 : ∀ x : Gr w2.heap.size w2, x.val.cell? ⟨w.heap.size + 1, 11, none⟩ = some (.int .u64 (a.se.2.2 : Int)) := fun x => (keepB (show Blk w2 (w.heap.size + 1) 32 (msV a ha) from KA2.out) x.is).cell 11
  have y12 : ∀ x : Gr w2.heap.size w2, x.val.cell? ⟨w.heap.size + 1, 12, none⟩ = some (.int .u64 (a.pr.1 : Int)) := fun x => (keepB (show Blk w2 (w.heap.size + 1) 32 (msV a ha) from KA2.out) x.is).cell 12
  have y13 : ∀ x : Gr w2.heap.size w2, x.val.cell? ⟨w.heap.size + 1, 13, none⟩ = some (.slice ha.A4 ha.n4 ha.c4) := fun x => (keepB (show Blk w2 (w.heap.size + 1) 32 (msV a ha) from KA2.out) x.is).cell 13
  go_upto_region 3 with (fail)
  refine wp_region_grow (by kernel_rfl) (by kernel_rfl) w2.heap.size ?_
  repeat (first | go_big_quiet_step ((first | (go_at_call 9; exact Gr.call _ (Nat.le_refl _) (HK.out _)) | (go_at_call 10; exact Gr.call _ (Nat.le_refl _) (HR.out _)) | (go_at_call 8; exact Gr.call _ (Nat.le_refl _) (live30_any _)))) | quiet_step ((first | (go_at_call 9; exact Gr.call _ (Nat.le_refl _) (HK.out _)) | (go_at_call 10; exact Gr.call _ (Nat.le_refl _) (HR.out _)) | (go_at_call 8; exact Gr.call _ (Nat.le_refl _) (live30_any _)))))
  refine wpQuiet_nil ?_
  rintro w3 ⟨⟨_, hb3⟩, rfl⟩
  have HB3 := Lib.hid (stepB HB2.out hb3)
  clear hb3
  clear z0 z1 z2 z3 z4 z5 z6 z7 z8 z9 z10 z11 z12 z13
  clear y0 y1 y2 y3 y4 y5 y6 y7 y8 y9 y10 y11 y12 y13
  go_wp2_with fail
  go_ret
  exact ⟨rfl, HB3.out⟩
end Go.Proofs.Ytlfieiiegokejaa
