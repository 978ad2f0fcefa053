/- Whether messages are more than is gone through. -/
import Derived.Test.YtlfieiiegokejaaTkR
import Derived.Test.YtlfieiiegokejaaPrj2
import Derived.BigQuiet
import Derived.Deep.DeepCutAuto
import Derived.Deep.CutBlock
namespace Go.Proofs.Ytlfieiiegokejaa
open Go.ChangeShapes Go.WideShapes Go.ChangeAt Go.RowKit
set_option linter.unusedVariables false
section
variable {D : Dom} {A : Option Addr} {n c : Nat} {w : World}
set_option maxRecDepth 100000 in
set_option maxHeartbeats 2000000 in
theorem llong_any {l : List Lnk} (hs : rpLnk.sl w D A n c l) (hD : ∀ k, D k → k < w.heap.size) :
    Calls Try.prog 23 #[.slice A n c] w (AnyBool w) := by
  obtain ⟨hlen, hnc, hcm⟩ := Rp.sl_len hs
  unfold maxLen at hcm
  have HS := Lib.hid (show Sl rpLnk w D A n c l from ⟨hs, hD⟩)
  clear hs hD
  go_enter Try.func23, Try.ntmps23
  go_wp2_with fail
  go_loopw [3] (fun v3 wr => ∃ k : Nat, k ≤ n ∧ k ≤ 50 ∧ v3 = .int .i64 (k : Int) ∧ Hid (Below w.heap.size w wr)) (fun v3 _ => n - (intOf v3).toNat)
  case atStart => exact ⟨0, by omega, by omega, rfl, Below.refl _ _⟩
  case round =>
    obtain ⟨k, hk, hk50, rfl, hbr⟩ := hrel
    by_cases hin : k < n ∧ k < 50
    · obtain ⟨h1, h2⟩ := hin
      obtain ⟨b, off, x, A2, c2, rfl, _, hx, g0, g1, hrow, _⟩ := lnk_at (keepS HS.out hbr.out).1 h1
      have hkI : (0 : Int) ≤ (k : Int) := by omega
      have hkI2 : (k : Int) < (n : Int) := by omega
      have hd1 : decide ((k : Int) < (n : Int)) = true := by simp; omega
      have hd2 : decide ((k : Int) < 50) = true := by simp; omega
      obtain ⟨q, hq⟩ : ∃ q, decide ((50 : Int) < (x.2.length : Int)) = q := ⟨_, rfl⟩
      clear hrow hx
      cases q
      case false =>
        go_wp2_with fail
        go_roundw
        case rel => exact ⟨k + 1, by omega, by omega, by go_num, hbr⟩
        case measure => simp [intOf]; omega
      case true =>
        go_wp2_with fail
        go_ret
        exact ⟨true, rfl, hbr.out⟩
    · have hc : k = n ∨ (k < n ∧ k = 50) := by omega
      clear hin
      rcases hc with rfl | ⟨h1, rfl⟩
      · have hd1 : decide ((k : Int) < (k : Int)) = false := by simp
        go_wp2_with fail
        go_ret
        exact ⟨_, rfl, hbr.out⟩
      · have hd1 : decide ((50 : Int) < (n : Int)) = true := by simp; omega
        go_wp2_with fail
        go_ret
        exact ⟨_, rfl, hbr.out⟩
end
section
variable {D : Dom} {m : Ms} {h : Hd} {w : World}
set_option maxRecDepth 100000 in
set_option maxHeartbeats 2000000 in
theorem mlong_any (hm : MsIn w D m h) : Calls Try.prog 7 #[.agg (msV m h)] w (AnyBool w) := by
  have hb0 := below1 w (.cells (msV m h) 32)
  have HB := Lib.hid hb0
  have HK := Lib.hid (blk11 w 32 (msV m h))
  have HM := Lib.hid (hm.below hb0)
  clear hm hb0
  go_enter Try.func7, Try.ntmps7
  go_upto_region 1 with (fail)
  generalize World.alloc w _ = w0 at *
  have z0 : w0.cell? ⟨w.heap.size, 0, none⟩ = some (.int .i64 m.kd) := (show Blk w0 (w.heap.size) 32 (msV m h) from HK.out).cell 0
  have z1 : w0.cell? ⟨w.heap.size, 1, none⟩ = some (.int .u64 (m.ep : Int)) := (show Blk w0 (w.heap.size) 32 (msV m h) from HK.out).cell 1
  have z2 : w0.cell? ⟨w.heap.size, 2, none⟩ = some (.int .u64 (m.sq : Int)) := (show Blk w0 (w.heap.size) 32 (msV m h) from HK.out).cell 2
  have z3 : w0.cell? ⟨w.heap.size, 3, none⟩ = some (.int .u64 (m.ps : Int)) := (show Blk w0 (w.heap.size) 32 (msV m h) from HK.out).cell 3
  have z4 : w0.cell? ⟨w.heap.size, 4, none⟩ = some (.int .i64 m.ct) := (show Blk w0 (w.heap.size) 32 (msV m h) from HK.out).cell 4
  have z5 : w0.cell? ⟨w.heap.size, 5, none⟩ = some (.int .i64 m.st) := (show Blk w0 (w.heap.size) 32 (msV m h) from HK.out).cell 5
  have z6 : w0.cell? ⟨w.heap.size, 6, none⟩ = some (.slice h.A1 h.n1 h.c1) := (show Blk w0 (w.heap.size) 32 (msV m h) from HK.out).cell 6
  have z7 : w0.cell? ⟨w.heap.size, 7, none⟩ = some (.slice h.A2 h.n2 h.c2) := (show Blk w0 (w.heap.size) 32 (msV m h) from HK.out).cell 7
  have z8 : w0.cell? ⟨w.heap.size, 8, none⟩ = some (.slice h.A3 h.n3 h.c3) := (show Blk w0 (w.heap.size) 32 (msV m h) from HK.out).cell 8
  have z9 : w0.cell? ⟨w.heap.size, 9, none⟩ = some (.int .u64 (m.se.1 : Int)) := (show Blk w0 (w.heap.size) 32 (msV m h) from HK.out).cell 9
  have z10 : w0.cell? ⟨w.heap.size, 10, none⟩ = some (.int .u64 (m.se.2.1 : Int)) := (show Blk w0 (w.heap.size) 32 (msV m h) from HK.out).cell 10
  have z11 : w0.cell? ⟨w.heap.size, 11, none⟩ = some (.int .u64 (m.se.2.2 : Int)) := (show Blk w0 (w.heap.size) 32 (msV m h) from HK.out).cell 11
  have z12 : w0.cell? ⟨w.heap.size, 12, none⟩ = some (.int .u64 (m.pr.1 : Int)) := (show Blk w0 (w.heap.size) 32 (msV m h) from HK.out).cell 12
  have z13 : w0.cell? ⟨w.heap.size, 13, none⟩ = some (.slice h.A4 h.n4 h.c4) := (show Blk w0 (w.heap.size) 32 (msV m h) from HK.out).cell 13
  have HLL := Lib.hid (llong_any HM.out.ls HM.out.dom)
  obtain ⟨q1, hq1⟩ : ∃ q, decide ((50 : Int) < (h.n1 : Int)) = q := ⟨_, rfl⟩
  cases q1
  case true =>
    go_wp2_with fail
    go_ret
    exact ⟨true, rfl, HB.out⟩
  case false =>
  go_wp2_with fail
  refine HLL.out.mono ?_; rintro e w1 ⟨q2, rfl, hb1⟩
  have HB1 := Lib.hid (stepB HB.out hb1)
  have HM1 := Lib.hid (HM.out.below hb1)
  have HK1 : Hid (Blk w1 w.heap.size 32 (msV m h)) := Lib.hid (keepB (show Blk w0 w.heap.size 32 (msV m h) from HK.out) hb1)
  clear hb1 z0 z1 z2 z3 z4 z5 z6 z7 z8 z9 z10 z11 z12 z13
  have z0 : w1.cell? ⟨w.heap.size, 0, none⟩ = some (.int .i64 m.kd) := (show Blk w1 (w.heap.size) 32 (msV m h) from HK1.out).cell 0
  have z1 : w1.cell? ⟨w.heap.size, 1, none⟩ = some (.int .u64 (m.ep : Int)) := (show Blk w1 (w.heap.size) 32 (msV m h) from HK1.out).cell 1
  have z2 : w1.cell? ⟨w.heap.size, 2, none⟩ = some (.int .u64 (m.sq : Int)) := (show Blk w1 (w.heap.size) 32 (msV m h) from HK1.out).cell 2
  have z3 : w1.cell? ⟨w.heap.size, 3, none⟩ = some (.int .u64 (m.ps : Int)) := (show Blk w1 (w.heap.size) 32 (msV m h) from HK1.out).cell 3
  have z4 : w1.cell? ⟨w.heap.size, 4, none⟩ = some (.int .i64 m.ct) := (show Blk w1 (w.heap.size) 32 (msV m h) from HK1.out).cell 4
  have z5 : w1.cell? ⟨w.heap.size, 5, none⟩ = some (.int .i64 m.st) := (show Blk w1 (w.heap.size) 32 (msV m h) from HK1.out).cell 5
  have z6 : w1.cell? ⟨w.heap.size, 6, none⟩ = some (.slice h.A1 h.n1 h.c1) := (show Blk w1 (w.heap.size) 32 (msV m h) from HK1.out).cell 6
  have z7 : w1.cell? ⟨w.heap.size, 7, none⟩ = some (.slice h.A2 h.n2 h.c2) := (show Blk w1 (w.heap.size) 32 (msV m h) from HK1.out).cell 7
  have z8 : w1.cell? ⟨w.heap.size, 8, none⟩ = some (.slice h.A3 h.n3 h.c3) := (show Blk w1 (w.heap.size) 32 (msV m h) from HK1.out).cell 8
  have z9 : w1.cell? ⟨w.heap.size, 9, none⟩ = some (.int .u64 (m.se.1 : Int)) := (show Blk w1 (w.heap.size) 32 (msV m h) from HK1.out).cell 9
  have z10 : w1.cell? ⟨w.heap.size, 10, none⟩ = some (.int .u64 (m.se.2.1 : Int)) := (show Blk w1 (w.heap.size) 32 (msV m h) from HK1.out).cell 10
  have z11 : w1.cell? ⟨w.heap.size, 11, none⟩ = some (.int .u64 (m.se.2.2 : Int)) := (show Blk w1 (w.heap.size) 32 (msV m h) from HK1.out).cell 11
  have z12 : w1.cell? ⟨w.heap.size, 12, none⟩ = some (.int .u64 (m.pr.1 : Int)) := (show Blk w1 (w.heap.size) 32 (msV m h) from HK1.out).cell 12
  have z13 : w1.cell? ⟨w.heap.size, 13, none⟩ = some (.slice h.A4 h.n4 h.c4) := (show Blk w1 (w.heap.size) 32 (msV m h) from HK1.out).cell 13
  have HPL := Lib.hid (plong_any (e := m.pr.1) HM1.out.pr HM1.out.dom)
  cases q2
  case true =>
    go_wp2_with fail
    go_ret
    exact ⟨true, rfl, HB1.out⟩
  case false =>
  obtain ⟨q3, hq3⟩ : ∃ q, decide ((300 : Int) < (h.n3 : Int)) = q := ⟨_, rfl⟩
  cases q3
  case true =>
    go_wp2_with fail
    go_ret
    exact ⟨true, rfl, HB1.out⟩
  case false =>
  go_wp2_with fail
  refine HPL.out.mono ?_; rintro e w2 ⟨q4, rfl, hb2⟩
  have HB2 := Lib.hid (stepB HB1.out hb2)
  clear hb2 z0 z1 z2 z3 z4 z5 z6 z7 z8 z9 z10 z11 z12 z13
  go_wp2_with fail
  go_ret
  exact ⟨q4, rfl, HB2.out⟩
end
section
variable {D : Dom} {A : Option Addr} {n c : Nat} {l : List Ms} {w : World}
set_option maxRecDepth 100000 in
set_option maxHeartbeats 2000000 in
theorem many_any (hs : rpMs.sl w D A n c l) (hD : ∀ k, D k → k < w.heap.size) :
    Calls Try.prog 11 #[.slice A n c] w fun e w' => ∃ q : Bool, e = .returned (.bool q) ∧ (q = false → n ≤ 12) ∧ Below w.heap.size w w' := by
  obtain ⟨hlen, hnc, hcm⟩ := Rp.sl_len hs
  unfold maxLen at hcm
  have HS := Lib.hid (show Sl rpMs w D A n c l from ⟨hs, hD⟩)
  clear hs hD hlen
  go_enter Try.func11, Try.ntmps11
  go_wp2_with fail
  go_loopw [3] (fun v3 wr => ∃ k : Nat, k ≤ n ∧ k ≤ 12 ∧ v3 = .int .i64 (k : Int) ∧ Hid (Below w.heap.size w wr)) (fun v3 _ => n - (intOf v3).toNat)
  case atStart => exact ⟨0, by omega, by omega, rfl, Below.refl _ _⟩
  case round =>
    obtain ⟨k, hk, hk12, rfl, hbr⟩ := hrel
    by_cases hin : k < n ∧ k < 12
    · obtain ⟨h1, h2⟩ := hin
      have hsr := keepS HS.out hbr.out
      obtain ⟨bo, off, m, hd', hA, hDb, hm, hmi, hc⟩ := ms_at hsr.1 hsr.2 h1
      subst hA
      have e0 : wr.cell? ⟨bo, off + k * 14, none⟩ = some (.int .i64 m.kd) := hc 0 _ rfl
      have e1 : wr.cell? ⟨bo, off + k * 14 + 1, none⟩ = some (.int .u64 (m.ep : Int)) := hc 1 _ rfl
      have e2 : wr.cell? ⟨bo, off + k * 14 + 2, none⟩ = some (.int .u64 (m.sq : Int)) := hc 2 _ rfl
      have e3 : wr.cell? ⟨bo, off + k * 14 + 3, none⟩ = some (.int .u64 (m.ps : Int)) := hc 3 _ rfl
      have e4 : wr.cell? ⟨bo, off + k * 14 + 4, none⟩ = some (.int .i64 m.ct) := hc 4 _ rfl
      have e5 : wr.cell? ⟨bo, off + k * 14 + 5, none⟩ = some (.int .i64 m.st) := hc 5 _ rfl
      have e6 : wr.cell? ⟨bo, off + k * 14 + 6, none⟩ = some (.slice hd'.A1 hd'.n1 hd'.c1) := hc 6 _ rfl
      have e7 : wr.cell? ⟨bo, off + k * 14 + 7, none⟩ = some (.slice hd'.A2 hd'.n2 hd'.c2) := hc 7 _ rfl
      have e8 : wr.cell? ⟨bo, off + k * 14 + 8, none⟩ = some (.slice hd'.A3 hd'.n3 hd'.c3) := hc 8 _ rfl
      have e9 : wr.cell? ⟨bo, off + k * 14 + 9, none⟩ = some (.int .u64 (m.se.1 : Int)) := hc 9 _ rfl
      have e10 : wr.cell? ⟨bo, off + k * 14 + 10, none⟩ = some (.int .u64 (m.se.2.1 : Int)) := hc 10 _ rfl
      have e11 : wr.cell? ⟨bo, off + k * 14 + 11, none⟩ = some (.int .u64 (m.se.2.2 : Int)) := hc 11 _ rfl
      have e12 : wr.cell? ⟨bo, off + k * 14 + 12, none⟩ = some (.int .u64 (m.pr.1 : Int)) := hc 12 _ rfl
      have e13 : wr.cell? ⟨bo, off + k * 14 + 13, none⟩ = some (.slice hd'.A4 hd'.n4 hd'.c4) := hc 13 _ rfl
      have hkI : (0 : Int) ≤ (k : Int) := by omega
      have hkI2 : (k : Int) < (n : Int) := by omega
      have hd1 : decide ((k : Int) < (n : Int)) = true := by simp; omega
      have hd2 : decide ((k : Int) < 12) = true := by simp; omega
      have HML := Lib.hid (mlong_any hmi)
      clear hc hm hmi hsr hDb
      go_wp2_with fail
      refine HML.out.mono ?_; rintro e w1 ⟨q, rfl, hb1⟩
      have HB1 := Lib.hid (stepB hbr.out hb1)
      clear hb1 e0 e1 e2 e3 e4 e5 e6 e7 e8 e9 e10 e11 e12 e13
      cases q
      case false =>
        go_wp2_with fail
        go_roundw
        case rel => exact ⟨k + 1, by omega, by omega, by go_num, HB1⟩
        case measure => simp [intOf]; omega
      case true =>
        go_wp2_with fail
        go_ret
        exact ⟨true, rfl, fun h => (by cases h), HB1.out⟩
    · have hc : k = n ∨ (k < n ∧ k = 12) := by omega
      clear hin
      rcases hc with rfl | ⟨h1, rfl⟩
      · have hd1 : decide ((k : Int) < (k : Int)) = false := by simp
        obtain ⟨q, hq⟩ : ∃ q, decide ((12 : Int) < (k : Int)) = q := ⟨_, rfl⟩
        go_wp2_with fail
        go_ret
        exact ⟨q, rfl, fun _ => hk12, hbr.out⟩
      · have hd1 : decide ((12 : Int) < (n : Int)) = true := by simp; omega
        go_wp2_with fail
        go_ret
        exact ⟨true, rfl, fun h => (by cases h), hbr.out⟩
end
end Go.Proofs.Ytlfieiiegokejaa
