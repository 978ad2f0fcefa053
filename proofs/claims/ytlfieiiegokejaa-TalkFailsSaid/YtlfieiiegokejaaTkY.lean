/- talk.Quiet, talk.Fail. -/
import Derived.Test.YtlfieiiegokejaaTkV
namespace Go.Proofs.Ytlfieiiegokejaa
open Go.ChangeShapes Go.WideShapes Go.ChangeAt Go.RowKit
set_option linter.unusedVariables false
def zeroM : Ms := ⟨0, 0, 0, 0, 0, 0, [], [], [], (0, 0, 0), (0, [])⟩
def failM (ep sq : Nat) (code : Int) : Ms := ⟨14, ep, sq, 0, 0, code, [], [], [], (0, 0, 0), (0, [])⟩
def hdZ : Hd := ⟨none, 0, 0, none, 0, 0, none, 0, 0, none, 0, 0⟩
theorem fail_in (w : World) {ep sq : Nat} {code : Int} (h1 : ep ≤ 18446744073709551615) (h2 : sq ≤ 18446744073709551615) (h3 : -9223372036854775808 ≤ code) (h4 : code ≤ 9223372036854775807) : MsIn w (fun _ => False) (failM ep sq code) hdZ :=
  ⟨Rp.sl_nil _ _ _ _ _ (by decide), Rp.sl_nil _ _ _ _ _ (by decide), Rp.sl_nil _ _ _ _ _ (by decide), Rp.sl_nil _ _ _ _ _ (by decide), fun k h => h.elim, (by decide : (-9223372036854775808 : Int) ≤ 14), (by decide : (14 : Int) ≤ 9223372036854775807), (by decide : (-9223372036854775808 : Int) ≤ 0), (by decide : (0 : Int) ≤ 9223372036854775807), h3, h4, h1, h2, Nat.zero_le _, Nat.zero_le _, Nat.zero_le _, Nat.zero_le _, Nat.zero_le _⟩
abbrev zV : Array Value := #[.int .i64 0, .int .u64 0, .int .u64 0, .int .u64 0, .int .i64 0, .int .i64 0, .slice none 0 0, .slice none 0 0, .slice none 0 0, .int .u64 0, .int .u64 0, .int .u64 0, .int .u64 0, .slice none 0 0]
abbrev failV (ep sq : Nat) (code : Int) : Array Value := #[.int .i64 14, .int .u64 (ep : Int), .int .u64 (sq : Int), .int .u64 0, .int .i64 0, .int .i64 code, .slice none 0 0, .slice none 0 0, .slice none 0 0, .int .u64 0, .int .u64 0, .int .u64 0, .int .u64 0, .slice none 0 0]
theorem failV_eq (ep sq : Nat) (code : Int) : msV (failM ep sq code) hdZ = failV ep sq code := rfl
theorem zV_eq : msV zeroM hdZ = zV := rfl
section
variable {w : World} {D : Dom} {A : Option Addr} {n c : Nat} {l : List Ms}
/-- What talk.Quiet tells. -/
def QuietIs (w : World) (l : List Ms) (e : Ending) (w' : World) : Prop :=
  Below w.heap.size w w' ∧ ((∃ q, e = .returned (.bool q) ∧ (res l).2 = 0 ∧ Good l l.length ∧ (q = true ↔ opnL l (prsOf l l.length l.length) = [])) ∨ e = .returned (.bool false) ∧ (res l).2 ≠ 0)
set_option maxRecDepth 100000 in
set_option maxHeartbeats 1000000 in
theorem quiet_any (hs : rpMs.sl w D A n c l) (hD : ∀ k, D k → k < w.heap.size) (hn : n ≤ 1000) :
    Calls Try.prog 21 #[.slice A n c] w (QuietIs w l) := by
  have HO := Lib.hid (open_any hs hD hn)
  clear hs hD
  go_enter Try.func21, Try.ntmps21
  go_wp2_with fail
  refine HO.out.mono ?_; rintro e w1 ⟨hb, ⟨A', c', rfl, h0, hg, ho⟩ | ⟨rfl, hk⟩⟩
  · obtain ⟨on, hon⟩ : ∃ on, (opnL l (prsOf l l.length l.length)).length = on := ⟨_, rfl⟩
    rw [hon]
    have HON := Lib.hid hon
    have HB := Lib.hid hb
    have H0 := Lib.hid h0
    have HG := Lib.hid hg
    obtain ⟨q, hq⟩ : ∃ q, ((on : Int) == 0) = q := ⟨_, rfl⟩
    have HQ : Hid (q = true ↔ opnL l (prsOf l l.length l.length) = []) := by
      show _ ↔ _
      rw [← hq, beq_iff_eq, ← List.length_eq_zero_iff, hon]; omega
    clear hb h0 hg ho hon
    go_wp2_with fail
    go_ret
    exact ⟨HB.out, .inl ⟨q, rfl, H0.out, HG.out, HQ.out⟩⟩
  · have HB := Lib.hid hb
    have HK := Lib.hid hk
    clear hb hk
    go_wp2_with fail
    go_ret
    exact ⟨HB.out, .inr ⟨rfl, HK.out⟩⟩
end
section
variable {D : Dom} {q : Ms} {hq : Hd} {w : World}
set_option maxRecDepth 100000 in
set_option maxHeartbeats 4000000 in
theorem fail_any (hmq : MsIn w D q hq) {ep : Nat} {code : Int} (he : ep ≤ 18446744073709551615) (hc0 : -9223372036854775808 ≤ code) (hc1 : code ≤ 9223372036854775807) :
    Calls Try.prog 14 #[.agg (msV q hq), .int .u64 (ep : Int), .int .i64 code] w fun e w' => Below w.heap.size w w' ∧
      (fitsC q (failM ep q.sq code) = 0 ∧ e = .returned (.tuple #[.agg (failV ep q.sq code), .int .i64 0]) ∨ ∃ r : Int, r ≠ 0 ∧ fitsC q (failM ep q.sq code) = r ∧ e = .returned (.tuple #[.agg zV, .int .i64 r])) := by
  have HFT := fun u (hu : Below w.heap.size w u) => kfits_any (hmq.below hu) (fail_in u he hmq.sq1 hc0 hc1)
  obtain ⟨r, hr⟩ : ∃ r, fitsC q (failM ep q.sq code) = r := ⟨_, rfl⟩
  rw [hr] at HFT
  rw [failV_eq] at HFT
  rw [hr]
  have HFT' := Lib.hid HFT
  have HSZ : Hid ((Try.prog.info? 32).map (·.size) = some 14) := by show _ = _; kernel_rfl
  clear HFT hmq hr
  have hb3 := below3 w (.cells (msV q hq) 32) (.cells zV 32) (.cells (failV ep q.sq code) 32)
  have HB3 := Lib.hid hb3
  have hb2 := below2 w (.cells (msV q hq) 32) (.cells zV 32)
  have KQ := Lib.hid (blk21 w 32 32 (msV q hq) zV)
  have KZ := Lib.hid (blk22 w 32 32 (msV q hq) zV)
  have hsz : ((w.alloc (.cells (msV q hq) 32)).alloc (.cells zV 32)).heap.size = w.heap.size + 2 := by simp
  have KF : Hid (Blk (((w.alloc (.cells (msV q hq) 32)).alloc (.cells zV 32)).alloc (.cells (failV ep q.sq code) 32)) (w.heap.size + 2) 32 (failV ep q.sq code)) := by
    have h := Blk.new ((w.alloc (.cells (msV q hq) 32)).alloc (.cells zV 32)) 32 (failV ep q.sq code)
    rw [hsz] at h; exact h
  have KQ3 : Hid (Blk (((w.alloc (.cells (msV q hq) 32)).alloc (.cells zV 32)).alloc (.cells (failV ep q.sq code) 32)) w.heap.size 32 (msV q hq)) := KQ.out.alloc _
  have KZ3 : Hid (Blk (((w.alloc (.cells (msV q hq) 32)).alloc (.cells zV 32)).alloc (.cells (failV ep q.sq code) 32)) (w.heap.size + 1) 32 zV) := KZ.out.alloc _
  have k2 : ((w.alloc (.cells (msV q hq) 32)).alloc (.cells zV 32)).cell? ⟨w.heap.size, 2, none⟩ = some (.int .u64 (q.sq : Int)) := (show Blk _ w.heap.size 32 (msV q hq) from KQ.out).cell 2
  clear hb2 hb3 hsz
  go_enter Try.func14, Try.ntmps14
  go_upto_region 2 with (fail)
  clear k2 KQ KZ
  generalize World.alloc (World.alloc (World.alloc w _) _) _ = w3 at *
  have z0 : w3.cell? ⟨w.heap.size, 0, none⟩ = some (.int .i64 q.kd) := (show Blk w3 (w.heap.size) 32 (msV q hq) from KQ3.out).cell 0
  have z1 : w3.cell? ⟨w.heap.size, 1, none⟩ = some (.int .u64 (q.ep : Int)) := (show Blk w3 (w.heap.size) 32 (msV q hq) from KQ3.out).cell 1
  have z2 : w3.cell? ⟨w.heap.size, 2, none⟩ = some (.int .u64 (q.sq : Int)) := (show Blk w3 (w.heap.size) 32 (msV q hq) from KQ3.out).cell 2
  have z3 : w3.cell? ⟨w.heap.size, 3, none⟩ = some (.int .u64 (q.ps : Int)) := (show Blk w3 (w.heap.size) 32 (msV q hq) from KQ3.out).cell 3
  have z4 : w3.cell? ⟨w.heap.size, 4, none⟩ = some (.int .i64 q.ct) := (show Blk w3 (w.heap.size) 32 (msV q hq) from KQ3.out).cell 4
  have z5 : w3.cell? ⟨w.heap.size, 5, none⟩ = some (.int .i64 q.st) := (show Blk w3 (w.heap.size) 32 (msV q hq) from KQ3.out).cell 5
  have z6 : w3.cell? ⟨w.heap.size, 6, none⟩ = some (.slice hq.A1 hq.n1 hq.c1) := (show Blk w3 (w.heap.size) 32 (msV q hq) from KQ3.out).cell 6
  have z7 : w3.cell? ⟨w.heap.size, 7, none⟩ = some (.slice hq.A2 hq.n2 hq.c2) := (show Blk w3 (w.heap.size) 32 (msV q hq) from KQ3.out).cell 7
  have z8 : w3.cell? ⟨w.heap.size, 8, none⟩ = some (.slice hq.A3 hq.n3 hq.c3) := (show Blk w3 (w.heap.size) 32 (msV q hq) from KQ3.out).cell 8
  have z9 : w3.cell? ⟨w.heap.size, 9, none⟩ = some (.int .u64 (q.se.1 : Int)) := (show Blk w3 (w.heap.size) 32 (msV q hq) from KQ3.out).cell 9
  have z10 : w3.cell? ⟨w.heap.size, 10, none⟩ = some (.int .u64 (q.se.2.1 : Int)) := (show Blk w3 (w.heap.size) 32 (msV q hq) from KQ3.out).cell 10
  have z11 : w3.cell? ⟨w.heap.size, 11, none⟩ = some (.int .u64 (q.se.2.2 : Int)) := (show Blk w3 (w.heap.size) 32 (msV q hq) from KQ3.out).cell 11
  have z12 : w3.cell? ⟨w.heap.size, 12, none⟩ = some (.int .u64 (q.pr.1 : Int)) := (show Blk w3 (w.heap.size) 32 (msV q hq) from KQ3.out).cell 12
  have z13 : w3.cell? ⟨w.heap.size, 13, none⟩ = some (.slice hq.A4 hq.n4 hq.c4) := (show Blk w3 (w.heap.size) 32 (msV q hq) from KQ3.out).cell 13
  have y0 : w3.cell? ⟨w.heap.size + 2, 0, none⟩ = some (.int .i64 14) := (show Blk w3 (w.heap.size + 2) 32 (failV ep q.sq code) from KF.out).cell 0
  have y1 : w3.cell? ⟨w.heap.size + 2, 1, none⟩ = some (.int .u64 (ep : Int)) := (show Blk w3 (w.heap.size + 2) 32 (failV ep q.sq code) from KF.out).cell 1
  have y2 : w3.cell? ⟨w.heap.size + 2, 2, none⟩ = some (.int .u64 (q.sq : Int)) := (show Blk w3 (w.heap.size + 2) 32 (failV ep q.sq code) from KF.out).cell 2
  have y3 : w3.cell? ⟨w.heap.size + 2, 3, none⟩ = some (.int .u64 0) := (show Blk w3 (w.heap.size + 2) 32 (failV ep q.sq code) from KF.out).cell 3
  have y4 : w3.cell? ⟨w.heap.size + 2, 4, none⟩ = some (.int .i64 0) := (show Blk w3 (w.heap.size + 2) 32 (failV ep q.sq code) from KF.out).cell 4
  have y5 : w3.cell? ⟨w.heap.size + 2, 5, none⟩ = some (.int .i64 code) := (show Blk w3 (w.heap.size + 2) 32 (failV ep q.sq code) from KF.out).cell 5
  have y6 : w3.cell? ⟨w.heap.size + 2, 6, none⟩ = some (.slice none 0 0) := (show Blk w3 (w.heap.size + 2) 32 (failV ep q.sq code) from KF.out).cell 6
  have y7 : w3.cell? ⟨w.heap.size + 2, 7, none⟩ = some (.slice none 0 0) := (show Blk w3 (w.heap.size + 2) 32 (failV ep q.sq code) from KF.out).cell 7
  have y8 : w3.cell? ⟨w.heap.size + 2, 8, none⟩ = some (.slice none 0 0) := (show Blk w3 (w.heap.size + 2) 32 (failV ep q.sq code) from KF.out).cell 8
  have y9 : w3.cell? ⟨w.heap.size + 2, 9, none⟩ = some (.int .u64 0) := (show Blk w3 (w.heap.size + 2) 32 (failV ep q.sq code) from KF.out).cell 9
  have y10 : w3.cell? ⟨w.heap.size + 2, 10, none⟩ = some (.int .u64 0) := (show Blk w3 (w.heap.size + 2) 32 (failV ep q.sq code) from KF.out).cell 10
  have y11 : w3.cell? ⟨w.heap.size + 2, 11, none⟩ = some (.int .u64 0) := (show Blk w3 (w.heap.size + 2) 32 (failV ep q.sq code) from KF.out).cell 11
  have y12 : w3.cell? ⟨w.heap.size + 2, 12, none⟩ = some (.int .u64 0) := (show Blk w3 (w.heap.size + 2) 32 (failV ep q.sq code) from KF.out).cell 12
  have y13 : w3.cell? ⟨w.heap.size + 2, 13, none⟩ = some (.slice none 0 0) := (show Blk w3 (w.heap.size + 2) 32 (failV ep q.sq code) from KF.out).cell 13
  go_wp2_with fail
  refine (HFT'.out _ HB3.out).mono ?_; rintro e w4 ⟨rfl, hb4⟩
  have HB4 := Lib.hid (stepB HB3.out hb4)
  have KF4 : Hid (Blk w4 (w.heap.size + 2) 32 (failV ep q.sq code)) := Lib.hid (keepB (show Blk w3 (w.heap.size + 2) 32 (failV ep q.sq code) from KF.out) hb4)
  have KZ4 : Hid (Blk w4 (w.heap.size + 1) 32 zV) := Lib.hid (keepB (show Blk w3 (w.heap.size + 1) 32 zV from KZ3.out) hb4)
  clear hb4 z0 z1 z2 z3 z4 z5 z6 z7 z8 z9 z10 z11 z12 z13 y0 y1 y2 y3 y4 y5 y6 y7 y8 y9 y10 y11 y12 y13
  by_cases h0 : r = 0
  case pos =>
    have hr0 : (r != 0) = false := by simpa using h0
    have HR0 := Lib.hid h0
    clear h0
    have y0 : w4.cell? ⟨w.heap.size + 2, 0, none⟩ = some (.int .i64 14) := (show Blk w4 (w.heap.size + 2) 32 (failV ep q.sq code) from KF4.out).cell 0
    have y1 : w4.cell? ⟨w.heap.size + 2, 1, none⟩ = some (.int .u64 (ep : Int)) := (show Blk w4 (w.heap.size + 2) 32 (failV ep q.sq code) from KF4.out).cell 1
    have y2 : w4.cell? ⟨w.heap.size + 2, 2, none⟩ = some (.int .u64 (q.sq : Int)) := (show Blk w4 (w.heap.size + 2) 32 (failV ep q.sq code) from KF4.out).cell 2
    have y3 : w4.cell? ⟨w.heap.size + 2, 3, none⟩ = some (.int .u64 0) := (show Blk w4 (w.heap.size + 2) 32 (failV ep q.sq code) from KF4.out).cell 3
    have y4 : w4.cell? ⟨w.heap.size + 2, 4, none⟩ = some (.int .i64 0) := (show Blk w4 (w.heap.size + 2) 32 (failV ep q.sq code) from KF4.out).cell 4
    have y5 : w4.cell? ⟨w.heap.size + 2, 5, none⟩ = some (.int .i64 code) := (show Blk w4 (w.heap.size + 2) 32 (failV ep q.sq code) from KF4.out).cell 5
    have y6 : w4.cell? ⟨w.heap.size + 2, 6, none⟩ = some (.slice none 0 0) := (show Blk w4 (w.heap.size + 2) 32 (failV ep q.sq code) from KF4.out).cell 6
    have y7 : w4.cell? ⟨w.heap.size + 2, 7, none⟩ = some (.slice none 0 0) := (show Blk w4 (w.heap.size + 2) 32 (failV ep q.sq code) from KF4.out).cell 7
    have y8 : w4.cell? ⟨w.heap.size + 2, 8, none⟩ = some (.slice none 0 0) := (show Blk w4 (w.heap.size + 2) 32 (failV ep q.sq code) from KF4.out).cell 8
    have y9 : w4.cell? ⟨w.heap.size + 2, 9, none⟩ = some (.int .u64 0) := (show Blk w4 (w.heap.size + 2) 32 (failV ep q.sq code) from KF4.out).cell 9
    have y10 : w4.cell? ⟨w.heap.size + 2, 10, none⟩ = some (.int .u64 0) := (show Blk w4 (w.heap.size + 2) 32 (failV ep q.sq code) from KF4.out).cell 10
    have y11 : w4.cell? ⟨w.heap.size + 2, 11, none⟩ = some (.int .u64 0) := (show Blk w4 (w.heap.size + 2) 32 (failV ep q.sq code) from KF4.out).cell 11
    have y12 : w4.cell? ⟨w.heap.size + 2, 12, none⟩ = some (.int .u64 0) := (show Blk w4 (w.heap.size + 2) 32 (failV ep q.sq code) from KF4.out).cell 12
    have y13 : w4.cell? ⟨w.heap.size + 2, 13, none⟩ = some (.slice none 0 0) := (show Blk w4 (w.heap.size + 2) 32 (failV ep q.sq code) from KF4.out).cell 13
    go_wp2_with (refine wpList_put_row rfl 32 (.tmp 6) (.tmp 22) rfl (w.heap.size + 1) (failV ep q.sq code) rfl rfl 32 _ KZ4.out HSZ.out rfl (by simp [Value.oneCell']) ?_; intro w5 hblk hgr)
    try rw [Exit.noGoto_ret]
    have x0 : w5.cell? ⟨w.heap.size + 1, 0, none⟩ = some (.int .i64 14) := (show Blk w5 (w.heap.size + 1) 32 (failV ep q.sq code) from hblk).cell 0
    have x1 : w5.cell? ⟨w.heap.size + 1, 1, none⟩ = some (.int .u64 (ep : Int)) := (show Blk w5 (w.heap.size + 1) 32 (failV ep q.sq code) from hblk).cell 1
    have x2 : w5.cell? ⟨w.heap.size + 1, 2, none⟩ = some (.int .u64 (q.sq : Int)) := (show Blk w5 (w.heap.size + 1) 32 (failV ep q.sq code) from hblk).cell 2
    have x3 : w5.cell? ⟨w.heap.size + 1, 3, none⟩ = some (.int .u64 0) := (show Blk w5 (w.heap.size + 1) 32 (failV ep q.sq code) from hblk).cell 3
    have x4 : w5.cell? ⟨w.heap.size + 1, 4, none⟩ = some (.int .i64 0) := (show Blk w5 (w.heap.size + 1) 32 (failV ep q.sq code) from hblk).cell 4
    have x5 : w5.cell? ⟨w.heap.size + 1, 5, none⟩ = some (.int .i64 code) := (show Blk w5 (w.heap.size + 1) 32 (failV ep q.sq code) from hblk).cell 5
    have x6 : w5.cell? ⟨w.heap.size + 1, 6, none⟩ = some (.slice none 0 0) := (show Blk w5 (w.heap.size + 1) 32 (failV ep q.sq code) from hblk).cell 6
    have x7 : w5.cell? ⟨w.heap.size + 1, 7, none⟩ = some (.slice none 0 0) := (show Blk w5 (w.heap.size + 1) 32 (failV ep q.sq code) from hblk).cell 7
    have x8 : w5.cell? ⟨w.heap.size + 1, 8, none⟩ = some (.slice none 0 0) := (show Blk w5 (w.heap.size + 1) 32 (failV ep q.sq code) from hblk).cell 8
    have x9 : w5.cell? ⟨w.heap.size + 1, 9, none⟩ = some (.int .u64 0) := (show Blk w5 (w.heap.size + 1) 32 (failV ep q.sq code) from hblk).cell 9
    have x10 : w5.cell? ⟨w.heap.size + 1, 10, none⟩ = some (.int .u64 0) := (show Blk w5 (w.heap.size + 1) 32 (failV ep q.sq code) from hblk).cell 10
    have x11 : w5.cell? ⟨w.heap.size + 1, 11, none⟩ = some (.int .u64 0) := (show Blk w5 (w.heap.size + 1) 32 (failV ep q.sq code) from hblk).cell 11
    have x12 : w5.cell? ⟨w.heap.size + 1, 12, none⟩ = some (.int .u64 0) := (show Blk w5 (w.heap.size + 1) 32 (failV ep q.sq code) from hblk).cell 12
    have x13 : w5.cell? ⟨w.heap.size + 1, 13, none⟩ = some (.slice none 0 0) := (show Blk w5 (w.heap.size + 1) 32 (failV ep q.sq code) from hblk).cell 13
    refine bodyPost_ret (v := .tuple #[.agg (failV ep q.sq code), .int .i64 0]) (by simp [results, Try.results14, go_sem, x0, x1, x2, x3, x4, x5, x6, x7, x8, x9, x10, x11, x12, x13]) rfl ⟨HB4.out.grown hgr HB4.out.size (fun q hq => by injection hq with hq; omega), .inl ⟨HR0.out, rfl⟩⟩
  case neg =>
    have hr0 : (r != 0) = true := by simpa using h0
    have HR0 := Lib.hid h0
    clear h0
    go_wp2_with (refine wpList_put_row rfl 32 (.tmp 6) (.tmp 20) rfl (w.heap.size + 1) zV rfl rfl 32 _ KZ4.out HSZ.out rfl (by simp [Value.oneCell']) ?_; intro w5 hblk hgr)
    try rw [Exit.noGoto_ret]
    have x0 : w5.cell? ⟨w.heap.size + 1, 0, none⟩ = some (.int .i64 0) := (show Blk w5 (w.heap.size + 1) 32 (zV) from hblk).cell 0
    have x1 : w5.cell? ⟨w.heap.size + 1, 1, none⟩ = some (.int .u64 0) := (show Blk w5 (w.heap.size + 1) 32 (zV) from hblk).cell 1
    have x2 : w5.cell? ⟨w.heap.size + 1, 2, none⟩ = some (.int .u64 0) := (show Blk w5 (w.heap.size + 1) 32 (zV) from hblk).cell 2
    have x3 : w5.cell? ⟨w.heap.size + 1, 3, none⟩ = some (.int .u64 0) := (show Blk w5 (w.heap.size + 1) 32 (zV) from hblk).cell 3
    have x4 : w5.cell? ⟨w.heap.size + 1, 4, none⟩ = some (.int .i64 0) := (show Blk w5 (w.heap.size + 1) 32 (zV) from hblk).cell 4
    have x5 : w5.cell? ⟨w.heap.size + 1, 5, none⟩ = some (.int .i64 0) := (show Blk w5 (w.heap.size + 1) 32 (zV) from hblk).cell 5
    have x6 : w5.cell? ⟨w.heap.size + 1, 6, none⟩ = some (.slice none 0 0) := (show Blk w5 (w.heap.size + 1) 32 (zV) from hblk).cell 6
    have x7 : w5.cell? ⟨w.heap.size + 1, 7, none⟩ = some (.slice none 0 0) := (show Blk w5 (w.heap.size + 1) 32 (zV) from hblk).cell 7
    have x8 : w5.cell? ⟨w.heap.size + 1, 8, none⟩ = some (.slice none 0 0) := (show Blk w5 (w.heap.size + 1) 32 (zV) from hblk).cell 8
    have x9 : w5.cell? ⟨w.heap.size + 1, 9, none⟩ = some (.int .u64 0) := (show Blk w5 (w.heap.size + 1) 32 (zV) from hblk).cell 9
    have x10 : w5.cell? ⟨w.heap.size + 1, 10, none⟩ = some (.int .u64 0) := (show Blk w5 (w.heap.size + 1) 32 (zV) from hblk).cell 10
    have x11 : w5.cell? ⟨w.heap.size + 1, 11, none⟩ = some (.int .u64 0) := (show Blk w5 (w.heap.size + 1) 32 (zV) from hblk).cell 11
    have x12 : w5.cell? ⟨w.heap.size + 1, 12, none⟩ = some (.int .u64 0) := (show Blk w5 (w.heap.size + 1) 32 (zV) from hblk).cell 12
    have x13 : w5.cell? ⟨w.heap.size + 1, 13, none⟩ = some (.slice none 0 0) := (show Blk w5 (w.heap.size + 1) 32 (zV) from hblk).cell 13
    refine bodyPost_ret (v := .tuple #[.agg zV, .int .i64 r]) (by simp [results, Try.results14, go_sem, x0, x1, x2, x3, x4, x5, x6, x7, x8, x9, x10, x11, x12, x13]) rfl ⟨HB4.out.grown hgr HB4.out.size (fun q hq => by injection hq with hq; omega), .inr ⟨r, HR0.out, rfl, rfl⟩⟩
end
end Go.Proofs.Ytlfieiiegokejaa
