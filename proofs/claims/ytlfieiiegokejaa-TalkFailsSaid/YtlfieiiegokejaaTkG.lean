/- ref30.Request, ref30.Fits. -/
import Derived.Test.YtlfieiiegokejaaTkF
import Derived.Test.YtlfieiiegokejaaTkC
namespace Go.Proofs.Ytlfieiiegokejaa
open Go.ChangeShapes Go.WideShapes Go.ChangeAt Go.RowKit
set_option linter.unusedVariables false
set_option maxRecDepth 100000 in
theorem kg2 (a : ByteArray) (b c : Int) (w : World) : (Instr.field 61 (.agg #[.string a, .int .i64 b, .int .i64 c]) 2).run Try.prog w = .ok (.int .i64 c) w := rfl
theorem Kd.an_ge (k : Int) : 0 ≤ Kd.an k := (Kd.by_rows (p := fun i => 0 ≤ (Kd.rowAt i).2.1 ∧ (Kd.rowAt i).2.1 ≤ 128 ∧ 0 ≤ (Kd.rowAt i).2.2 ∧ (Kd.rowAt i).2.2 ≤ 13) Kd.row_bd k).2.2.1
section
variable {D : Dom} {m : Ms} {h : Hd}
set_option maxRecDepth 100000 in
theorem rreq_any (m : Ms) (h : Hd) (w : World) : Calls Try.prog 17 #[.agg (msV m h)] w fun e w' => e = .returned (.bool (Kd.an m.kd != 0)) ∧ Below w.heap.size w w' := by
  have HB := Lib.hid (below1 w (.cells (msV m h) 32))
  have HK := Lib.hid (blk11 w 32 (msV m h))
  have HOF := Lib.hid (kref_of_any m.kd)
  have hz := Kd.an_ge m.kd
  obtain ⟨z, hzz⟩ : ∃ z, Kd.an m.kd = z := ⟨_, rfl⟩
  obtain ⟨b, hb⟩ : ∃ b, (z != 0) = b := ⟨_, rfl⟩
  rw [hzz] at hz HOF ⊢
  rw [hb]
  have hd : decide (0 < z) = b := by
    rw [← hb]
    by_cases h0 : z = 0
    · subst h0; rfl
    · have h1 : (z != 0) = true := by simpa using h0
      rw [h1]; simp; omega
  clear hzz hb hz
  have hfd := kg2
  go_enter Try.func17, Try.ntmps17
  go_upto_region 1 with (fail)
  generalize World.alloc w _ = w0 at *
  have k0 : w0.cell? ⟨w.heap.size, 0, none⟩ = some (.int .i64 m.kd) := (show Blk w0 w.heap.size 32 (msV m h) from HK.out).cell 0
  go_wp2_with fail
  refine (HOF.out _).mono ?_; rintro e w1 ⟨rfl, hb1⟩
  have HB1 := Lib.hid hb1
  clear hb1
  go_wp2_with fail
  go_ret
  exact ⟨rfl, stepB HB.out HB1.out⟩
end
def EqTo (q a : Ms) (k : Nat) : Prop := ∀ i, i < k → (a.ls[i]?.map (·.1)) = q.ss[i]?
section
variable {D D' : Dom} {q a : Ms} {hq ha : Hd} {w : World}
set_option maxRecDepth 100000 in
set_option maxHeartbeats 4000000 in
theorem rfits_any (hmq : MsIn w D q hq) (hma : MsIn w D' a ha) : Calls Try.prog 10 #[.agg (msV q hq), .agg (msV a ha)] w fun e w' => e = .returned (.int .i64 (fitsC q a)) ∧ Below w.heap.size w w' := by
  have hb0 := below2 w (.cells (msV q hq) 32) (.cells (msV a ha) 32)
  have HB := Lib.hid hb0
  have KQ := Lib.hid (blk21 w 32 32 (msV q hq) (msV a ha))
  have KA := Lib.hid (blk22 w 32 32 (msV q hq) (msV a ha))
  have HQ := Lib.hid (hmq.below hb0)
  have HA := Lib.hid (hma.below hb0)
  obtain ⟨res, hres⟩ : ∃ r, r = fitsC q a := ⟨_, rfl⟩
  rw [← hres]
  have HRES := Lib.hid hres
  have HRQ := rmright_any (hmq.below hb0)
  clear hb0 hres hmq hma
  by_cases h1 : MOk q
  case neg =>
    obtain rfl : res = 3 := by rw [HRES.out]; unfold fitsC; rw [if_pos (fun h => h1 h.1)]
    rw [dec_false h1] at HRQ
    have HR1 := Lib.hid HRQ
    clear HRQ h1
    go_enter Try.func10, Try.ntmps10
    go_upto_region 1 with (fail)
    generalize World.alloc (World.alloc w _) _ = w0 at *
    have p0 : w0.cell? ⟨w.heap.size, 0, none⟩ = some (.int .i64 q.kd) := (show Blk w0 w.heap.size 32 (msV q hq) from KQ.out).cell 0
    have p1 : w0.cell? ⟨w.heap.size, 1, none⟩ = some (.int .u64 (q.ep : Int)) := (show Blk w0 w.heap.size 32 (msV q hq) from KQ.out).cell 1
    have p2 : w0.cell? ⟨w.heap.size, 2, none⟩ = some (.int .u64 (q.sq : Int)) := (show Blk w0 w.heap.size 32 (msV q hq) from KQ.out).cell 2
    have p3 : w0.cell? ⟨w.heap.size, 3, none⟩ = some (.int .u64 (q.ps : Int)) := (show Blk w0 w.heap.size 32 (msV q hq) from KQ.out).cell 3
    have p4 : w0.cell? ⟨w.heap.size, 4, none⟩ = some (.int .i64 q.ct) := (show Blk w0 w.heap.size 32 (msV q hq) from KQ.out).cell 4
    have p5 : w0.cell? ⟨w.heap.size, 5, none⟩ = some (.int .i64 q.st) := (show Blk w0 w.heap.size 32 (msV q hq) from KQ.out).cell 5
    have p6 : w0.cell? ⟨w.heap.size, 6, none⟩ = some (.slice hq.A1 hq.n1 hq.c1) := (show Blk w0 w.heap.size 32 (msV q hq) from KQ.out).cell 6
    have p7 : w0.cell? ⟨w.heap.size, 7, none⟩ = some (.slice hq.A2 hq.n2 hq.c2) := (show Blk w0 w.heap.size 32 (msV q hq) from KQ.out).cell 7
    have p8 : w0.cell? ⟨w.heap.size, 8, none⟩ = some (.slice hq.A3 hq.n3 hq.c3) := (show Blk w0 w.heap.size 32 (msV q hq) from KQ.out).cell 8
    have p9 : w0.cell? ⟨w.heap.size, 9, none⟩ = some (.int .u64 (q.se.1 : Int)) := (show Blk w0 w.heap.size 32 (msV q hq) from KQ.out).cell 9
    have p10 : w0.cell? ⟨w.heap.size, 10, none⟩ = some (.int .u64 (q.se.2.1 : Int)) := (show Blk w0 w.heap.size 32 (msV q hq) from KQ.out).cell 10
    have p11 : w0.cell? ⟨w.heap.size, 11, none⟩ = some (.int .u64 (q.se.2.2 : Int)) := (show Blk w0 w.heap.size 32 (msV q hq) from KQ.out).cell 11
    have p12 : w0.cell? ⟨w.heap.size, 12, none⟩ = some (.int .u64 (q.pr.1 : Int)) := (show Blk w0 w.heap.size 32 (msV q hq) from KQ.out).cell 12
    have p13 : w0.cell? ⟨w.heap.size, 13, none⟩ = some (.slice hq.A4 hq.n4 hq.c4) := (show Blk w0 w.heap.size 32 (msV q hq) from KQ.out).cell 13
    go_wp2_with fail
    refine HR1.out.mono ?_; rintro e w1 ⟨rfl, hb1⟩
    go_wp2_with fail
    go_ret
    exact ⟨rfl, stepB HB.out hb1⟩
  case pos =>
  rw [dec_true h1] at HRQ
  have HR1 := Lib.hid HRQ
  have H1 := Lib.hid h1
  clear HRQ h1
  go_enter Try.func10, Try.ntmps10
  go_upto_region 1 with (fail)
  generalize World.alloc (World.alloc w _) _ = w0 at *
  have p0 : w0.cell? ⟨w.heap.size, 0, none⟩ = some (.int .i64 q.kd) := (show Blk w0 w.heap.size 32 (msV q hq) from KQ.out).cell 0
  have p1 : w0.cell? ⟨w.heap.size, 1, none⟩ = some (.int .u64 (q.ep : Int)) := (show Blk w0 w.heap.size 32 (msV q hq) from KQ.out).cell 1
  have p2 : w0.cell? ⟨w.heap.size, 2, none⟩ = some (.int .u64 (q.sq : Int)) := (show Blk w0 w.heap.size 32 (msV q hq) from KQ.out).cell 2
  have p3 : w0.cell? ⟨w.heap.size, 3, none⟩ = some (.int .u64 (q.ps : Int)) := (show Blk w0 w.heap.size 32 (msV q hq) from KQ.out).cell 3
  have p4 : w0.cell? ⟨w.heap.size, 4, none⟩ = some (.int .i64 q.ct) := (show Blk w0 w.heap.size 32 (msV q hq) from KQ.out).cell 4
  have p5 : w0.cell? ⟨w.heap.size, 5, none⟩ = some (.int .i64 q.st) := (show Blk w0 w.heap.size 32 (msV q hq) from KQ.out).cell 5
  have p6 : w0.cell? ⟨w.heap.size, 6, none⟩ = some (.slice hq.A1 hq.n1 hq.c1) := (show Blk w0 w.heap.size 32 (msV q hq) from KQ.out).cell 6
  have p7 : w0.cell? ⟨w.heap.size, 7, none⟩ = some (.slice hq.A2 hq.n2 hq.c2) := (show Blk w0 w.heap.size 32 (msV q hq) from KQ.out).cell 7
  have p8 : w0.cell? ⟨w.heap.size, 8, none⟩ = some (.slice hq.A3 hq.n3 hq.c3) := (show Blk w0 w.heap.size 32 (msV q hq) from KQ.out).cell 8
  have p9 : w0.cell? ⟨w.heap.size, 9, none⟩ = some (.int .u64 (q.se.1 : Int)) := (show Blk w0 w.heap.size 32 (msV q hq) from KQ.out).cell 9
  have p10 : w0.cell? ⟨w.heap.size, 10, none⟩ = some (.int .u64 (q.se.2.1 : Int)) := (show Blk w0 w.heap.size 32 (msV q hq) from KQ.out).cell 10
  have p11 : w0.cell? ⟨w.heap.size, 11, none⟩ = some (.int .u64 (q.se.2.2 : Int)) := (show Blk w0 w.heap.size 32 (msV q hq) from KQ.out).cell 11
  have p12 : w0.cell? ⟨w.heap.size, 12, none⟩ = some (.int .u64 (q.pr.1 : Int)) := (show Blk w0 w.heap.size 32 (msV q hq) from KQ.out).cell 12
  have p13 : w0.cell? ⟨w.heap.size, 13, none⟩ = some (.slice hq.A4 hq.n4 hq.c4) := (show Blk w0 w.heap.size 32 (msV q hq) from KQ.out).cell 13
  go_wp2_with fail
  refine HR1.out.mono ?_; rintro e w1 ⟨rfl, hb1⟩
  have HB1 := Lib.hid hb1
  have KQ1 := Lib.hid (keepB (show Blk w0 w.heap.size 32 (msV q hq) from KQ.out) hb1)
  have KA1 := Lib.hid (keepB (show Blk w0 (w.heap.size + 1) 32 (msV a ha) from KA.out) hb1)
  have HRA := rmright_any (HA.out.below hb1)
  clear p0 p1 p2 p3 p4 p5 p6 p7 p8 p9 p10 p11 p12 p13
  clear hb1
  have r0 : w1.cell? ⟨(w.heap.size + 1), 0, none⟩ = some (.int .i64 a.kd) := (show Blk w1 (w.heap.size + 1) 32 (msV a ha) from KA1.out).cell 0
  have r1 : w1.cell? ⟨(w.heap.size + 1), 1, none⟩ = some (.int .u64 (a.ep : Int)) := (show Blk w1 (w.heap.size + 1) 32 (msV a ha) from KA1.out).cell 1
  have r2 : w1.cell? ⟨(w.heap.size + 1), 2, none⟩ = some (.int .u64 (a.sq : Int)) := (show Blk w1 (w.heap.size + 1) 32 (msV a ha) from KA1.out).cell 2
  have r3 : w1.cell? ⟨(w.heap.size + 1), 3, none⟩ = some (.int .u64 (a.ps : Int)) := (show Blk w1 (w.heap.size + 1) 32 (msV a ha) from KA1.out).cell 3
  have r4 : w1.cell? ⟨(w.heap.size + 1), 4, none⟩ = some (.int .i64 a.ct) := (show Blk w1 (w.heap.size + 1) 32 (msV a ha) from KA1.out).cell 4
  have r5 : w1.cell? ⟨(w.heap.size + 1), 5, none⟩ = some (.int .i64 a.st) := (show Blk w1 (w.heap.size + 1) 32 (msV a ha) from KA1.out).cell 5
  have r6 : w1.cell? ⟨(w.heap.size + 1), 6, none⟩ = some (.slice ha.A1 ha.n1 ha.c1) := (show Blk w1 (w.heap.size + 1) 32 (msV a ha) from KA1.out).cell 6
  have r7 : w1.cell? ⟨(w.heap.size + 1), 7, none⟩ = some (.slice ha.A2 ha.n2 ha.c2) := (show Blk w1 (w.heap.size + 1) 32 (msV a ha) from KA1.out).cell 7
  have r8 : w1.cell? ⟨(w.heap.size + 1), 8, none⟩ = some (.slice ha.A3 ha.n3 ha.c3) := (show Blk w1 (w.heap.size + 1) 32 (msV a ha) from KA1.out).cell 8
  have r9 : w1.cell? ⟨(w.heap.size + 1), 9, none⟩ = some (.int .u64 (a.se.1 : Int)) := (show Blk w1 (w.heap.size + 1) 32 (msV a ha) from KA1.out).cell 9
  have r10 : w1.cell? ⟨(w.heap.size + 1), 10, none⟩ = some (.int .u64 (a.se.2.1 : Int)) := (show Blk w1 (w.heap.size + 1) 32 (msV a ha) from KA1.out).cell 10
  have r11 : w1.cell? ⟨(w.heap.size + 1), 11, none⟩ = some (.int .u64 (a.se.2.2 : Int)) := (show Blk w1 (w.heap.size + 1) 32 (msV a ha) from KA1.out).cell 11
  have r12 : w1.cell? ⟨(w.heap.size + 1), 12, none⟩ = some (.int .u64 (a.pr.1 : Int)) := (show Blk w1 (w.heap.size + 1) 32 (msV a ha) from KA1.out).cell 12
  have r13 : w1.cell? ⟨(w.heap.size + 1), 13, none⟩ = some (.slice ha.A4 ha.n4 ha.c4) := (show Blk w1 (w.heap.size + 1) 32 (msV a ha) from KA1.out).cell 13
  by_cases h2 : MOk a
  case neg =>
    obtain rfl : res = 3 := by rw [HRES.out]; unfold fitsC; rw [if_pos (fun h => h2 h.2)]
    rw [dec_false h2] at HRA
    have HR2 := Lib.hid HRA
    clear HRA h2
    go_wp2_with fail
    refine HR2.out.mono ?_; rintro e w2 ⟨rfl, hb2⟩
    go_wp2_with fail
    go_ret
    exact ⟨rfl, stepB HB.out (stepB HB1.out hb2)⟩
  case pos =>
  rw [dec_true h2] at HRA
  have HR2 := Lib.hid HRA
  have H2 := Lib.hid h2
  have HF : Hid (fitsC q a = if Kd.ans q.kd a.kd = false then 7 else if q.sq ≠ a.sq then 13 else if a.kd ≠ 14 ∧ q.ep ≠ a.ep then 18 else if a.kd = 12 ∧ a.ls.map (·.1) ≠ q.ss then 16 else 0) := by
    show _ = _
    unfold fitsC
    rw [if_neg (fun h => h ⟨H1.out, H2.out⟩)]
  clear HRA h2
  go_wp2_with fail
  refine HR2.out.mono ?_; rintro e w2 ⟨rfl, hb2⟩
  have HB2 := Lib.hid (stepB HB1.out hb2)
  have KQ2 : Hid (Blk w2 w.heap.size 32 (msV q hq)) := Lib.hid (keepB (show Blk w1 w.heap.size 32 (msV q hq) from KQ1.out) hb2)
  have KA2 : Hid (Blk w2 (w.heap.size + 1) 32 (msV a ha)) := Lib.hid (keepB (show Blk w1 (w.heap.size + 1) 32 (msV a ha) from KA1.out) hb2)
  clear r0 r1 r2 r3 r4 r5 r6 r7 r8 r9 r10 r11 r12 r13
  clear hb2
  have hfd := kg2
  have HRR := Lib.hid (rreq_any q hq)
  have HOF := Lib.hid (kref_of_any q.kd)
  obtain ⟨z, hz⟩ : ∃ z, Kd.an q.kd = z := ⟨_, rfl⟩
  have HAN : Hid (Kd.ans q.kd a.kd = (z != 0 && (a.kd == z || a.kd == 14))) := by rw [← hz]; rfl
  rw [hz] at HRR HOF
  clear hz
  obtain ⟨b1, hb1⟩ : ∃ b, (z != 0) = b := ⟨_, rfl⟩
  obtain ⟨b2, hb2⟩ : ∃ b, (a.kd != 14) = b := ⟨_, rfl⟩
  obtain ⟨b3, hb3⟩ : ∃ b, (a.kd != z) = b := ⟨_, rfl⟩
  rw [hb1] at HRR
  have HAB : Hid (Kd.ans q.kd a.kd = (b1 && (!b3 || !b2))) := by
    show _ = _
    rw [HAN.out, hb1, ← hb2, ← hb3]; simp [bne]
  clear hb1 HAN
  go_upto_region 3 with (fail)
  go_cut [30] (fun s30 wx => s30 = .bool (!(b1 && (!b3 || !b2))) ∧ Hid (Below w2.heap.size w2 wx))
  case first =>
    have p0 : ∀ x : Gr w2.heap.size w2, x.val.cell? ⟨w.heap.size, 0, none⟩ = some (.int .i64 q.kd) := fun x => (x.is.cell (p := ⟨w.heap.size, 0, none⟩) (show Blk w2 w.heap.size 32 (msV q hq) from KQ2.out).lt).trans ((show Blk w2 w.heap.size 32 (msV q hq) from KQ2.out).cell 0)
    have p1 : ∀ x : Gr w2.heap.size w2, x.val.cell? ⟨w.heap.size, 1, none⟩ = some (.int .u64 (q.ep : Int)) := fun x => (x.is.cell (p := ⟨w.heap.size, 1, none⟩) (show Blk w2 w.heap.size 32 (msV q hq) from KQ2.out).lt).trans ((show Blk w2 w.heap.size 32 (msV q hq) from KQ2.out).cell 1)
    have p2 : ∀ x : Gr w2.heap.size w2, x.val.cell? ⟨w.heap.size, 2, none⟩ = some (.int .u64 (q.sq : Int)) := fun x => (x.is.cell (p := ⟨w.heap.size, 2, none⟩) (show Blk w2 w.heap.size 32 (msV q hq) from KQ2.out).lt).trans ((show Blk w2 w.heap.size 32 (msV q hq) from KQ2.out).cell 2)
    have p3 : ∀ x : Gr w2.heap.size w2, x.val.cell? ⟨w.heap.size, 3, none⟩ = some (.int .u64 (q.ps : Int)) := fun x => (x.is.cell (p := ⟨w.heap.size, 3, none⟩) (show Blk w2 w.heap.size 32 (msV q hq) from KQ2.out).lt).trans ((show Blk w2 w.heap.size 32 (msV q hq) from KQ2.out).cell 3)
    have p4 : ∀ x : Gr w2.heap.size w2, x.val.cell? ⟨w.heap.size, 4, none⟩ = some (.int .i64 q.ct) := fun x => (x.is.cell (p := ⟨w.heap.size, 4, none⟩) (show Blk w2 w.heap.size 32 (msV q hq) from KQ2.out).lt).trans ((show Blk w2 w.heap.size 32 (msV q hq) from KQ2.out).cell 4)
    have p5 : ∀ x : Gr w2.heap.size w2, x.val.cell? ⟨w.heap.size, 5, none⟩ = some (.int .i64 q.st) := fun x => (x.is.cell (p := ⟨w.heap.size, 5, none⟩) (show Blk w2 w.heap.size 32 (msV q hq) from KQ2.out).lt).trans ((show Blk w2 w.heap.size 32 (msV q hq) from KQ2.out).cell 5)
    have p6 : ∀ x : Gr w2.heap.size w2, x.val.cell? ⟨w.heap.size, 6, none⟩ = some (.slice hq.A1 hq.n1 hq.c1) := fun x => (x.is.cell (p := ⟨w.heap.size, 6, none⟩) (show Blk w2 w.heap.size 32 (msV q hq) from KQ2.out).lt).trans ((show Blk w2 w.heap.size 32 (msV q hq) from KQ2.out).cell 6)
    have p7 : ∀ x : Gr w2.heap.size w2, x.val.cell? ⟨w.heap.size, 7, none⟩ = some (.slice hq.A2 hq.n2 hq.c2) := fun x => (x.is.cell (p := ⟨w.heap.size, 7, none⟩) (show Blk w2 w.heap.size 32 (msV q hq) from KQ2.out).lt).trans ((show Blk w2 w.heap.size 32 (msV q hq) from KQ2.out).cell 7)
    have p8 : ∀ x : Gr w2.heap.size w2, x.val.cell? ⟨w.heap.size, 8, none⟩ = some (.slice hq.A3 hq.n3 hq.c3) := fun x => (x.is.cell (p := ⟨w.heap.size, 8, none⟩) (show Blk w2 w.heap.size 32 (msV q hq) from KQ2.out).lt).trans ((show Blk w2 w.heap.size 32 (msV q hq) from KQ2.out).cell 8)
    have p9 : ∀ x : Gr w2.heap.size w2, x.val.cell? ⟨w.heap.size, 9, none⟩ = some (.int .u64 (q.se.1 : Int)) := fun x => (x.is.cell (p := ⟨w.heap.size, 9, none⟩) (show Blk w2 w.heap.size 32 (msV q hq) from KQ2.out).lt).trans ((show Blk w2 w.heap.size 32 (msV q hq) from KQ2.out).cell 9)
    have p10 : ∀ x : Gr w2.heap.size w2, x.val.cell? ⟨w.heap.size, 10, none⟩ = some (.int .u64 (q.se.2.1 : Int)) := fun x => (x.is.cell (p := ⟨w.heap.size, 10, none⟩) (show Blk w2 w.heap.size 32 (msV q hq) from KQ2.out).lt).trans ((show Blk w2 w.heap.size 32 (msV q hq) from KQ2.out).cell 10)
    have p11 : ∀ x : Gr w2.heap.size w2, x.val.cell? ⟨w.heap.size, 11, none⟩ = some (.int .u64 (q.se.2.2 : Int)) := fun x => (x.is.cell (p := ⟨w.heap.size, 11, none⟩) (show Blk w2 w.heap.size 32 (msV q hq) from KQ2.out).lt).trans ((show Blk w2 w.heap.size 32 (msV q hq) from KQ2.out).cell 11)
    have p12 : ∀ x : Gr w2.heap.size w2, x.val.cell? ⟨w.heap.size, 12, none⟩ = some (.int .u64 (q.pr.1 : Int)) := fun x => (x.is.cell (p := ⟨w.heap.size, 12, none⟩) (show Blk w2 w.heap.size 32 (msV q hq) from KQ2.out).lt).trans ((show Blk w2 w.heap.size 32 (msV q hq) from KQ2.out).cell 12)
    have p13 : ∀ x : Gr w2.heap.size w2, x.val.cell? ⟨w.heap.size, 13, none⟩ = some (.slice hq.A4 hq.n4 hq.c4) := fun x => (x.is.cell (p := ⟨w.heap.size, 13, none⟩) (show Blk w2 w.heap.size 32 (msV q hq) from KQ2.out).lt).trans ((show Blk w2 w.heap.size 32 (msV q hq) from KQ2.out).cell 13)
    have r0 : ∀ x : Gr w2.heap.size w2, x.val.cell? ⟨(w.heap.size + 1), 0, none⟩ = some (.int .i64 a.kd) := fun x => (x.is.cell (p := ⟨(w.heap.size + 1), 0, none⟩) (show Blk w2 (w.heap.size + 1) 32 (msV a ha) from KA2.out).lt).trans ((show Blk w2 (w.heap.size + 1) 32 (msV a ha) from KA2.out).cell 0)
    cases b1
    case false =>
      refine wp_region_grow (by kernel_rfl) (by kernel_rfl) w2.heap.size ?_
      repeat (first | go_big_quiet_step (first | (go_at_call 17; exact Gr.call _ (Nat.le_refl _) (HRR.out _)) | (go_at_call 29; exact Gr.call _ (Nat.le_refl _) (HOF.out _))) | quiet_step (first | (go_at_call 17; exact Gr.call _ (Nat.le_refl _) (HRR.out _)) | (go_at_call 29; exact Gr.call _ (Nat.le_refl _) (HOF.out _))))
      refine wpQuiet_nil ?_
      rintro w5 ⟨⟨_, hb5⟩, rfl⟩
      go_wp2_with fail
      go_meet
      exact ⟨rfl, hb5⟩
    case true =>
      cases b2
      case false =>
        refine wp_region_grow (by kernel_rfl) (by kernel_rfl) w2.heap.size ?_
        repeat (first | go_big_quiet_step (first | (go_at_call 17; exact Gr.call _ (Nat.le_refl _) (HRR.out _)) | (go_at_call 29; exact Gr.call _ (Nat.le_refl _) (HOF.out _))) | quiet_step (first | (go_at_call 17; exact Gr.call _ (Nat.le_refl _) (HRR.out _)) | (go_at_call 29; exact Gr.call _ (Nat.le_refl _) (HOF.out _))))
        refine wpQuiet_nil ?_
        rintro w5 ⟨⟨_, hb5⟩, rfl⟩
        go_wp2_with fail
        go_meet
        exact ⟨by simp, hb5⟩
      case true =>
        refine wp_region_grow (by kernel_rfl) (by kernel_rfl) w2.heap.size ?_
        repeat (first | go_big_quiet_step (first | (go_at_call 17; exact Gr.call _ (Nat.le_refl _) (HRR.out _)) | (go_at_call 29; exact Gr.call _ (Nat.le_refl _) (HOF.out _))) | quiet_step (first | (go_at_call 17; exact Gr.call _ (Nat.le_refl _) (HRR.out _)) | (go_at_call 29; exact Gr.call _ (Nat.le_refl _) (HOF.out _))))
        refine wpQuiet_nil ?_
        rintro w5 ⟨⟨_, hb5⟩, rfl⟩
        go_wp2_with fail
        go_meet
        exact ⟨by cases b3 <;> rfl, hb5⟩
  case rest =>
  obtain ⟨rfl, hbx⟩ := hcut
  have HB3 := Lib.hid (stepB HB2.out hbx.out)
  have KQ3 : Hid (Blk wc w.heap.size 32 (msV q hq)) := Lib.hid (keepB (show Blk w2 w.heap.size 32 (msV q hq) from KQ2.out) hbx.out)
  have KA3 : Hid (Blk wc (w.heap.size + 1) 32 (msV a ha)) := Lib.hid (keepB (show Blk w2 (w.heap.size + 1) 32 (msV a ha) from KA2.out) hbx.out)
  have HQ3 := Lib.hid (HQ.out.below HB3.out)
  have HA3 := Lib.hid (HA.out.below HB3.out)
  clear hbx hb2 hb3 HRR HOF
  rw [HAB.out] at HF
  generalize (b1 && (!b3 || !b2)) = an at *
  cases an
  case false =>
    obtain rfl : res = 7 := by rw [HRES.out, HF.out]; rfl
    go_wp2_with fail
    go_ret
    exact ⟨rfl, stepB HB.out HB3.out⟩
  case true =>
  have p1 : wc.cell? ⟨w.heap.size, 1, none⟩ = some (.int .u64 (q.ep : Int)) := (show Blk wc w.heap.size 32 (msV q hq) from KQ3.out).cell 1
  have p2 : wc.cell? ⟨w.heap.size, 2, none⟩ = some (.int .u64 (q.sq : Int)) := (show Blk wc w.heap.size 32 (msV q hq) from KQ3.out).cell 2
  have p6 : wc.cell? ⟨w.heap.size, 6, none⟩ = some (.slice hq.A1 hq.n1 hq.c1) := (show Blk wc w.heap.size 32 (msV q hq) from KQ3.out).cell 6
  have r0 : wc.cell? ⟨(w.heap.size + 1), 0, none⟩ = some (.int .i64 a.kd) := (show Blk wc (w.heap.size + 1) 32 (msV a ha) from KA3.out).cell 0
  have r1 : wc.cell? ⟨(w.heap.size + 1), 1, none⟩ = some (.int .u64 (a.ep : Int)) := (show Blk wc (w.heap.size + 1) 32 (msV a ha) from KA3.out).cell 1
  have r2 : wc.cell? ⟨(w.heap.size + 1), 2, none⟩ = some (.int .u64 (a.sq : Int)) := (show Blk wc (w.heap.size + 1) 32 (msV a ha) from KA3.out).cell 2
  have r7 : wc.cell? ⟨(w.heap.size + 1), 7, none⟩ = some (.slice ha.A2 ha.n2 ha.c2) := (show Blk wc (w.heap.size + 1) 32 (msV a ha) from KA3.out).cell 7
  by_cases h3 : q.sq = a.sq
  case neg =>
    obtain rfl : res = 13 := by rw [HRES.out, HF.out, if_neg (by decide), if_pos h3]
    have hd3 : ((q.sq : Int) != (a.sq : Int)) = true := by simp; omega
    clear h3
    go_wp2_with fail
    go_ret
    exact ⟨rfl, stepB HB.out HB3.out⟩
  case pos =>
  have hd3 : ((q.sq : Int) != (a.sq : Int)) = false := by simp; omega
  by_cases h4 : a.kd ≠ 14 ∧ q.ep ≠ a.ep
  case pos =>
    obtain rfl : res = 18 := by rw [HRES.out, HF.out, if_neg (by decide), if_neg (fun h => h h3), if_pos h4]
    have hd4 : (a.kd != 14) = true := by simpa using h4.1
    have hd5 : ((q.ep : Int) != (a.ep : Int)) = true := by have := h4.2; simp; omega
    clear h3 h4
    go_wp2_with fail
    go_ret
    exact ⟨rfl, stepB HB.out HB3.out⟩
  case neg =>
  have HF5 : Hid (res = if a.kd = 12 ∧ a.ls.map (·.1) ≠ q.ss then 16 else 0) := by
    show _ = _
    rw [HRES.out, HF.out, if_neg (by decide), if_neg (fun h => h h3), if_neg h4]
  by_cases h12 : a.kd = 12
  case neg =>
    obtain rfl : res = 0 := by rw [HF5.out, if_neg (fun h => h12 h.1)]
    have hd12 : (a.kd == 12) = false := by simpa using h12
    have hc : (a.kd != 14) = false ∨ ((a.kd != 14) = true ∧ ((q.ep : Int) != (a.ep : Int)) = false) := by
      by_cases hx : a.kd = 14
      · exact .inl (by simpa using hx)
      · exact .inr ⟨by simpa using hx, by have : q.ep = a.ep := Decidable.byContradiction fun hn => h4 ⟨hx, hn⟩
                                          simp [this]⟩
    clear h3 h4 h12
    rcases hc with hd4 | ⟨hd4, hd5⟩
    all_goals
      go_wp2_with fail
      go_ret
      exact ⟨rfl, stepB HB.out HB3.out⟩
  case pos =>
  have hd12 : (a.kd == 12) = true := by simpa using h12
  have hd4 : (a.kd != 14) = true := by simp [h12]
  have hd5 : ((q.ep : Int) != (a.ep : Int)) = false := by
    have : q.ep = a.ep := Decidable.byContradiction fun hn => h4 ⟨by omega, hn⟩
    simp [this]
  have hn16 : ha.n2 ≤ 1000 := by
    have hp := H2.out.1.2.2.2.2.2.1
    unfold part at hp
    have e : Kd.has a.kd 16 = true := by rw [h12]; decide
    rw [if_pos e] at hp
    have h1 := hp.1
    have h2 := (Rp.sl_len HA3.out.ls).1
    omega
  have HE12 := Lib.hid h12
  have HL1 := Lib.hid (Rp.sl_len HQ3.out.ss).1
  have HL2 := Lib.hid (Rp.sl_len HA3.out.ls).1
  clear h3 h4 h12
  by_cases hlen : ha.n2 = hq.n1
  case neg =>
    have hdl : ((ha.n2 : Int) != (hq.n1 : Int)) = true := by simp; omega
    have hne : a.ls.map (·.1) ≠ q.ss := fun e => by
      have h := congrArg List.length e
      rw [List.length_map, HL2.out, HL1.out] at h
      exact hlen h
    obtain rfl : res = 16 := by rw [HF5.out, if_pos ⟨HE12.out, hne⟩]
    clear hne
    clear hlen
    go_wp2_with fail
    go_ret
    exact ⟨rfl, stepB HB.out HB3.out⟩
  case pos =>
  have hdl : ((ha.n2 : Int) != (hq.n1 : Int)) = false := by simp; omega
  have HLEN := Lib.hid hlen
  clear hlen
  go_wp2_with fail
  go_loopw [5] (fun v5 wr => ∃ k : Nat, k ≤ ha.n2 ∧ v5 = .int .i64 (k : Int) ∧ Hid (EqTo q a k) ∧ Hid (Below wc.heap.size wc wr)) (fun v5 _ => ha.n2 - (intOf v5).toNat)
  case atStart => exact ⟨0, by omega, rfl, fun i hi => absurd hi (Nat.not_lt_zero _), Below.refl _ _⟩
  case round =>
    obtain ⟨k, hk, rfl, heq, hbr⟩ := hrel
    have HBR := Lib.hid (stepB HB3.out hbr.out)
    have KQ4 : Hid (Blk wr w.heap.size 32 (msV q hq)) := Lib.hid (keepB (show Blk wc w.heap.size 32 (msV q hq) from KQ3.out) hbr.out)
    have KA4 : Hid (Blk wr (w.heap.size + 1) 32 (msV a ha)) := Lib.hid (keepB (show Blk wc (w.heap.size + 1) 32 (msV a ha) from KA3.out) hbr.out)
    clear p1 p2 p6 r0 r1 r2 r7
    have p6 : wr.cell? ⟨w.heap.size, 6, none⟩ = some (.slice hq.A1 hq.n1 hq.c1) := (show Blk wr w.heap.size 32 (msV q hq) from KQ4.out).cell 6
    have r7 : wr.cell? ⟨(w.heap.size + 1), 7, none⟩ = some (.slice ha.A2 ha.n2 ha.c2) := (show Blk wr (w.heap.size + 1) 32 (msV a ha) from KA4.out).cell 7
    by_cases hkn : k < ha.n2
    case neg =>
      have hee : a.ls.map (·.1) = q.ss := by
        apply List.ext_getElem?
        intro i
        rw [List.getElem?_map]
        rcases Nat.lt_or_ge i ha.n2 with hi | hi
        · exact heq.out i (by omega)
        · rw [List.getElem?_eq_none (by rw [HL2.out]; exact hi), List.getElem?_eq_none (by rw [HL1.out, ← HLEN.out]; exact hi)]; rfl
      obtain rfl : res = 0 := by rw [HF5.out, if_neg (fun h => h.2 hee)]
      clear hee
      have hd : decide ((k : Int) < (ha.n2 : Int)) = false := by simp; omega
      go_wp2_with fail
      go_ret
      exact ⟨rfl, stepB HB.out HBR.out⟩
    case pos =>
      have hd : decide ((k : Int) < (ha.n2 : Int)) = true := by simp; omega
      have hkI : (0 : Int) ≤ (k : Int) := by omega
      have hkI2 : (k : Int) < (ha.n2 : Int) := by omega
      have hkI3 : (k : Int) < (hq.n1 : Int) := by rw [← HLEN.out]; exact hkI2
      obtain ⟨b1, off1, x, A3, c3, hA2, _, hx, g0, g1, hrow, hx64⟩ := lnk_at (HA3.out.below hbr.out).ls hkn
      obtain ⟨b2, off2, y, hA1, _, hy, gy, hy64⟩ := u64_at (HQ3.out.below hbr.out).ss (show k < hq.n1 by rw [← HLEN.out]; exact hkn)
      rw [hA2] at r7
      rw [hA1] at p6
      by_cases hxy : x.1 = y
      case neg =>
        have hdx : ((x.1 : Int) != (y : Int)) = true := by simp; omega
        have hne : a.ls.map (·.1) ≠ q.ss := fun e => by
          have h : (a.ls.map (·.1))[k]? = q.ss[k]? := by rw [e]
          rw [List.getElem?_map, hx, hy] at h
          injection h with h
          exact hxy h
        obtain rfl : res = 16 := by rw [HF5.out, if_pos ⟨HE12.out, hne⟩]
        clear hne
        clear hrow hx hy hxy hA2 hA1 g1
        go_upto_region 15 with (fail)
        go_quiet (fail)
        have HBN : Hid (Below w0.heap.size w0 (wr.drewN nq)) := ⟨HBR.out.os, HBR.out.tape, HBR.out.output, HBR.out.size, HBR.out.block⟩
        go_wp2_with fail
        go_ret
        exact ⟨rfl, stepB HB.out HBN.out⟩
      case pos =>
        have hdx : ((x.1 : Int) != (y : Int)) = false := by simp; omega
        have HE : Hid (EqTo q a (k + 1)) := by
          intro i hi
          rcases Nat.lt_or_ge i k with h | h
          · exact heq.out i h
          · obtain rfl : i = k := by omega
            rw [hx, hy]; exact congrArg some hxy
        clear hrow hx hy hxy hA2 hA1 g1
        go_upto_region 15 with (fail)
        go_quiet (fail)
        have HBN : Hid (Below wc.heap.size wc (wr.drewN nq)) := ⟨hbr.out.os, hbr.out.tape, hbr.out.output, hbr.out.size, hbr.out.block⟩
        go_wp2_with fail
        go_roundw
        case rel => exact ⟨k + 1, by omega, by go_num, HE, HBN⟩
        case measure => simp [intOf]; omega
end
end Go.Proofs.Ytlfieiiegokejaa
