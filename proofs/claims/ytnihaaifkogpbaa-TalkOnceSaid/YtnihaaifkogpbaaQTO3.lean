/-
  The law of this claim, a further part of its proof (3): the parts TkF, TkJ, TkU, TkV, TkY.
-/
import Derived.RegionTactic
import Derived.StillTailTactics
import Derived.OwnWalk
import Derived.Test.YtnihaaifkogpbaaQTO2
/- talk.streams, talk.Fits. -/
namespace Go.Proofs.Ytnihaaifkogpbaa
open Go.ChangeShapes Go.WideShapes Go.ChangeAt Go.RowKit
set_option linter.unusedVariables false
section
variable {D : Dom} {A : Option Addr} {n c : Nat} {l : List Lnk} {w : World}
set_option maxRecDepth 100000 in
set_option maxHeartbeats 2000000 in
theorem kstrm_any (hs : rpLnk.sl w D A n c l) (hD : ∀ k, D k → k < w.heap.size) (hn : n ≤ 1000) :
    Calls Try.prog 56 #[.slice A n c] w fun e w' => ∃ A2 c2, e = .returned (.slice A2 n c2) ∧ w'.ownsRow w.heap.size 29 1 (.slice A2 n c2) n ((l.map (·.1)).map uv) ∧ (∀ y ∈ l.map (·.1), y < 18446744073709551616) ∧ Below w.heap.size w w' := by
  have HN := Lib.hid (Rp.sl_len hs).1
  have HS := Lib.hid (show Sl rpLnk w D A n c l from ⟨hs, hD⟩)
  clear hs hD
  go_enter Try.func56, Try.ntmps56
  go_wp2_with fail
  go_loopw [3, 8] (fun v3 v8 wr => ∃ (k : Nat) (As : Option Addr) (cs : Nat), k ≤ n ∧ v3 = .slice As k cs ∧ v8 = .int .i64 (k : Int) ∧ Hid (wr.ownsRow w.heap.size 29 1 (.slice As k cs) k (((l.take k).map (·.1)).map uv)) ∧ Hid (∀ y ∈ (l.take k).map (·.1), y < 18446744073709551616) ∧ Hid (Below w.heap.size w wr)) (fun _ v8 _ => n - (intOf v8).toNat)
  case atStart => exact ⟨0, none, 0, by omega, rfl, rfl, World.ownsRow_nil _ _ _ _, fun y h => by simp at h, Below.refl _ _⟩
  case round =>
    obtain ⟨k, As, cs, hk, rfl, rfl, hown, hlt, hbel⟩ := hrel
    have hzr := hbel.out.size
    by_cases hkn : k < n
    case neg =>
      have hd : decide (k < n) = false := by simpa using hkn
      obtain rfl : k = n := by omega
      have HT : Hid (l.take k = l) := List.take_of_length_le (by have := HN.out; omega)
      go_wp2_with fail
      go_ret
      refine ⟨As, cs, rfl, ?_, ?_, hbel.out⟩
      · have h := hown.out; rw [HT.out] at h; exact h
      · have h := hlt.out; rw [HT.out] at h; exact h
    case pos =>
      have hd : decide (k < n) = true := by simpa using hkn
      have hkI : (0 : Int) ≤ (k : Int) := by omega
      have hkI2 : (k : Int) < (n : Int) := by omega
      have hsr := keepS HS.out hbel.out
      obtain ⟨bo, off, x, A3, c3, rfl, hbD, hx, g0, g1, hrow, hx64⟩ := lnk_at hsr.1 hkn
      obtain ⟨xs, xl⟩ := x
      simp only at g0 g1 hrow hx64
      obtain ⟨xn, hxn⟩ : ∃ xn, xn = xl.length := ⟨_, rfl⟩
      rw [← hxn] at g1
      have hba := below1 wr (.cells #[.int .u64 (xs : Int), .slice A3 xn c3] 44)
      have HBA := Lib.hid (stepB hbel.out hba)
      have HK := Lib.hid (blk11 wr 44 #[.int .u64 (xs : Int), .slice A3 xn c3])
      have HOA := Lib.hid (keepO hown.out hba)
      have HTK : Hid (l.take (k + 1) = l.take k ++ [(xs, xl)]) := by
        show l.take (k + 1) = l.take k ++ [(xs, xl)]
        rw [List.take_add_one, hx]; rfl
      have hm : k + 1 ≤ maxLen := by unfold maxLen; omega
      clear hrow hx hbD hsr hba hxn
      go_upto_region 5 with (fail)
      generalize World.alloc wr _ = w4 at *
      have v0 : w4.cell? ⟨wr.heap.size, 0, none⟩ = some (.int .u64 (xs : Int)) := (show Blk w4 wr.heap.size 44 _ from HK.out).cell 0
      have hz4 := HBA.out.size
      have HBB := Lib.hid (stepB HBA.out (below1 w4 (.cells #[.int .u64 (xs : Int)] 29)))
      clear g0 g1
      go_wp2_with (at_builtin; refine wpList_app rfl (.tmp 12) (.tmp 15) _ rfl elem64 rfl (HOA.out.alloc _) rfl (Src.new w4 (.int .u64 (xs : Int)) _ rfl) hm (by omega) (by simp; omega) ?_; intro A6 c6 w6 ho6 hg6 hat6
                   have HO6 := Lib.hid ho6
                   have HB6 := Lib.hid (HBB.out.grown hg6 HBB.out.size (fun q hq => ((HOA.out.alloc (.cells #[.int .u64 (xs : Int)] 29)).lt q hq).1))
                   clear ho6 hg6 hat6)
      have HOO : Hid (w6.ownsRow w.heap.size 29 1 (.slice A6 (k + 1) c6) (k + 1) (((l.take (k + 1)).map (·.1)).map uv)) := by
        show w6.ownsRow _ _ _ _ _ _
        rw [HTK.out, List.map_append, List.map_append]; exact HO6.out
      have HLT : Hid (∀ y ∈ (l.take (k + 1)).map (·.1), y < 18446744073709551616) := by
        show ∀ y ∈ _, _
        rw [HTK.out, List.map_append]
        intro y hy
        rcases List.mem_append.1 hy with hy | hy
        · exact hlt.out y hy
        · simp at hy; omega
      go_roundw
      case rel => exact ⟨k + 1, A6, c6, by omega, rfl, by go_num, HOO, HLT, HB6⟩
      case measure => simp [intOf]; omega
end
section
variable {D D' : Dom} {q a : Ms} {hq ha : Hd} {w : World}
set_option maxRecDepth 100000 in
set_option maxHeartbeats 4000000 in
theorem kfits_any (hmq : MsIn w D q hq) (hma : MsIn w D' a ha) : Calls Try.prog 34 #[.agg (msV q hq), .agg (msV a ha)] w fun e w' => e = .returned (.int .i64 (fitsC q a)) ∧ Below w.heap.size w w' := by
  have hb0 := below2 w (.cells (msV q hq) 40) (.cells (msV a ha) 40)
  have HB := Lib.hid hb0
  have KQ := Lib.hid (blk21 w 40 40 (msV q hq) (msV a ha))
  have KA := Lib.hid (blk22 w 40 40 (msV q hq) (msV a ha))
  have HQ := Lib.hid (hmq.below hb0)
  have HA := Lib.hid (hma.below hb0)
  obtain ⟨res, hres⟩ : ∃ r, r = fitsC q a := ⟨_, rfl⟩
  rw [← hres]
  have HRES := Lib.hid hres
  have HRQ := mright_any (hmq.below hb0)
  clear hb0 hres hmq hma
  by_cases h1 : MOk q
  case neg =>
    obtain rfl : res = 3 := by rw [HRES.out]; unfold fitsC; rw [if_pos (fun h => h1 h.1)]
    rw [dec_false h1] at HRQ
    have HR1 := Lib.hid HRQ
    clear HRQ h1
    go_enter Try.func34, Try.ntmps34
    go_upto_region 1 with (fail)
    generalize World.alloc (World.alloc w _) _ = w0 at *
    have p0 : w0.cell? ⟨w.heap.size, 0, none⟩ = some (.int .i64 q.kd) := (show Blk w0 w.heap.size 40 (msV q hq) from KQ.out).cell 0
    have p1 : w0.cell? ⟨w.heap.size, 1, none⟩ = some (.int .u64 (q.ep : Int)) := (show Blk w0 w.heap.size 40 (msV q hq) from KQ.out).cell 1
    have p2 : w0.cell? ⟨w.heap.size, 2, none⟩ = some (.int .u64 (q.sq : Int)) := (show Blk w0 w.heap.size 40 (msV q hq) from KQ.out).cell 2
    have p3 : w0.cell? ⟨w.heap.size, 3, none⟩ = some (.int .u64 (q.ps : Int)) := (show Blk w0 w.heap.size 40 (msV q hq) from KQ.out).cell 3
    have p4 : w0.cell? ⟨w.heap.size, 4, none⟩ = some (.int .i64 q.ct) := (show Blk w0 w.heap.size 40 (msV q hq) from KQ.out).cell 4
    have p5 : w0.cell? ⟨w.heap.size, 5, none⟩ = some (.int .i64 q.st) := (show Blk w0 w.heap.size 40 (msV q hq) from KQ.out).cell 5
    have p6 : w0.cell? ⟨w.heap.size, 6, none⟩ = some (.slice hq.A1 hq.n1 hq.c1) := (show Blk w0 w.heap.size 40 (msV q hq) from KQ.out).cell 6
    have p7 : w0.cell? ⟨w.heap.size, 7, none⟩ = some (.slice hq.A2 hq.n2 hq.c2) := (show Blk w0 w.heap.size 40 (msV q hq) from KQ.out).cell 7
    have p8 : w0.cell? ⟨w.heap.size, 8, none⟩ = some (.slice hq.A3 hq.n3 hq.c3) := (show Blk w0 w.heap.size 40 (msV q hq) from KQ.out).cell 8
    have p9 : w0.cell? ⟨w.heap.size, 9, none⟩ = some (.int .u64 (q.se.1 : Int)) := (show Blk w0 w.heap.size 40 (msV q hq) from KQ.out).cell 9
    have p10 : w0.cell? ⟨w.heap.size, 10, none⟩ = some (.int .u64 (q.se.2.1 : Int)) := (show Blk w0 w.heap.size 40 (msV q hq) from KQ.out).cell 10
    have p11 : w0.cell? ⟨w.heap.size, 11, none⟩ = some (.int .u64 (q.se.2.2 : Int)) := (show Blk w0 w.heap.size 40 (msV q hq) from KQ.out).cell 11
    have p12 : w0.cell? ⟨w.heap.size, 12, none⟩ = some (.int .u64 (q.pr.1 : Int)) := (show Blk w0 w.heap.size 40 (msV q hq) from KQ.out).cell 12
    have p13 : w0.cell? ⟨w.heap.size, 13, none⟩ = some (.slice hq.A4 hq.n4 hq.c4) := (show Blk w0 w.heap.size 40 (msV q hq) from KQ.out).cell 13
    go_wp2_with fail
    refine HR1.out.mono ?_; rintro e w1 ⟨rfl, hb1⟩
    go_wp2_with fail
    go_ret
    exact ⟨rfl, stepB HB.out hb1⟩
  case pos =>
  rw [dec_true h1] at HRQ
  have HR1 := Lib.hid HRQ
  have H1 := Lib.hid h1
  clear HRQ h1
  go_enter Try.func34, Try.ntmps34
  go_upto_region 1 with (fail)
  generalize World.alloc (World.alloc w _) _ = w0 at *
  have p0 : w0.cell? ⟨w.heap.size, 0, none⟩ = some (.int .i64 q.kd) := (show Blk w0 w.heap.size 40 (msV q hq) from KQ.out).cell 0
  have p1 : w0.cell? ⟨w.heap.size, 1, none⟩ = some (.int .u64 (q.ep : Int)) := (show Blk w0 w.heap.size 40 (msV q hq) from KQ.out).cell 1
  have p2 : w0.cell? ⟨w.heap.size, 2, none⟩ = some (.int .u64 (q.sq : Int)) := (show Blk w0 w.heap.size 40 (msV q hq) from KQ.out).cell 2
  have p3 : w0.cell? ⟨w.heap.size, 3, none⟩ = some (.int .u64 (q.ps : Int)) := (show Blk w0 w.heap.size 40 (msV q hq) from KQ.out).cell 3
  have p4 : w0.cell? ⟨w.heap.size, 4, none⟩ = some (.int .i64 q.ct) := (show Blk w0 w.heap.size 40 (msV q hq) from KQ.out).cell 4
  have p5 : w0.cell? ⟨w.heap.size, 5, none⟩ = some (.int .i64 q.st) := (show Blk w0 w.heap.size 40 (msV q hq) from KQ.out).cell 5
  have p6 : w0.cell? ⟨w.heap.size, 6, none⟩ = some (.slice hq.A1 hq.n1 hq.c1) := (show Blk w0 w.heap.size 40 (msV q hq) from KQ.out).cell 6
  have p7 : w0.cell? ⟨w.heap.size, 7, none⟩ = some (.slice hq.A2 hq.n2 hq.c2) := (show Blk w0 w.heap.size 40 (msV q hq) from KQ.out).cell 7
  have p8 : w0.cell? ⟨w.heap.size, 8, none⟩ = some (.slice hq.A3 hq.n3 hq.c3) := (show Blk w0 w.heap.size 40 (msV q hq) from KQ.out).cell 8
  have p9 : w0.cell? ⟨w.heap.size, 9, none⟩ = some (.int .u64 (q.se.1 : Int)) := (show Blk w0 w.heap.size 40 (msV q hq) from KQ.out).cell 9
  have p10 : w0.cell? ⟨w.heap.size, 10, none⟩ = some (.int .u64 (q.se.2.1 : Int)) := (show Blk w0 w.heap.size 40 (msV q hq) from KQ.out).cell 10
  have p11 : w0.cell? ⟨w.heap.size, 11, none⟩ = some (.int .u64 (q.se.2.2 : Int)) := (show Blk w0 w.heap.size 40 (msV q hq) from KQ.out).cell 11
  have p12 : w0.cell? ⟨w.heap.size, 12, none⟩ = some (.int .u64 (q.pr.1 : Int)) := (show Blk w0 w.heap.size 40 (msV q hq) from KQ.out).cell 12
  have p13 : w0.cell? ⟨w.heap.size, 13, none⟩ = some (.slice hq.A4 hq.n4 hq.c4) := (show Blk w0 w.heap.size 40 (msV q hq) from KQ.out).cell 13
  go_wp2_with fail
  refine HR1.out.mono ?_; rintro e w1 ⟨rfl, hb1⟩
  have HB1 := Lib.hid hb1
  have KQ1 := Lib.hid (keepB (show Blk w0 w.heap.size 40 (msV q hq) from KQ.out) hb1)
  have KA1 := Lib.hid (keepB (show Blk w0 (w.heap.size + 1) 40 (msV a ha) from KA.out) hb1)
  have HRA := mright_any (HA.out.below hb1)
  clear p0 p1 p2 p3 p4 p5 p6 p7 p8 p9 p10 p11 p12 p13
  clear hb1
  have r0 : w1.cell? ⟨(w.heap.size + 1), 0, none⟩ = some (.int .i64 a.kd) := (show Blk w1 (w.heap.size + 1) 40 (msV a ha) from KA1.out).cell 0
  have r1 : w1.cell? ⟨(w.heap.size + 1), 1, none⟩ = some (.int .u64 (a.ep : Int)) := (show Blk w1 (w.heap.size + 1) 40 (msV a ha) from KA1.out).cell 1
  have r2 : w1.cell? ⟨(w.heap.size + 1), 2, none⟩ = some (.int .u64 (a.sq : Int)) := (show Blk w1 (w.heap.size + 1) 40 (msV a ha) from KA1.out).cell 2
  have r3 : w1.cell? ⟨(w.heap.size + 1), 3, none⟩ = some (.int .u64 (a.ps : Int)) := (show Blk w1 (w.heap.size + 1) 40 (msV a ha) from KA1.out).cell 3
  have r4 : w1.cell? ⟨(w.heap.size + 1), 4, none⟩ = some (.int .i64 a.ct) := (show Blk w1 (w.heap.size + 1) 40 (msV a ha) from KA1.out).cell 4
  have r5 : w1.cell? ⟨(w.heap.size + 1), 5, none⟩ = some (.int .i64 a.st) := (show Blk w1 (w.heap.size + 1) 40 (msV a ha) from KA1.out).cell 5
  have r6 : w1.cell? ⟨(w.heap.size + 1), 6, none⟩ = some (.slice ha.A1 ha.n1 ha.c1) := (show Blk w1 (w.heap.size + 1) 40 (msV a ha) from KA1.out).cell 6
  have r7 : w1.cell? ⟨(w.heap.size + 1), 7, none⟩ = some (.slice ha.A2 ha.n2 ha.c2) := (show Blk w1 (w.heap.size + 1) 40 (msV a ha) from KA1.out).cell 7
  have r8 : w1.cell? ⟨(w.heap.size + 1), 8, none⟩ = some (.slice ha.A3 ha.n3 ha.c3) := (show Blk w1 (w.heap.size + 1) 40 (msV a ha) from KA1.out).cell 8
  have r9 : w1.cell? ⟨(w.heap.size + 1), 9, none⟩ = some (.int .u64 (a.se.1 : Int)) := (show Blk w1 (w.heap.size + 1) 40 (msV a ha) from KA1.out).cell 9
  have r10 : w1.cell? ⟨(w.heap.size + 1), 10, none⟩ = some (.int .u64 (a.se.2.1 : Int)) := (show Blk w1 (w.heap.size + 1) 40 (msV a ha) from KA1.out).cell 10
  have r11 : w1.cell? ⟨(w.heap.size + 1), 11, none⟩ = some (.int .u64 (a.se.2.2 : Int)) := (show Blk w1 (w.heap.size + 1) 40 (msV a ha) from KA1.out).cell 11
  have r12 : w1.cell? ⟨(w.heap.size + 1), 12, none⟩ = some (.int .u64 (a.pr.1 : Int)) := (show Blk w1 (w.heap.size + 1) 40 (msV a ha) from KA1.out).cell 12
  have r13 : w1.cell? ⟨(w.heap.size + 1), 13, none⟩ = some (.slice ha.A4 ha.n4 ha.c4) := (show Blk w1 (w.heap.size + 1) 40 (msV a ha) from KA1.out).cell 13
  by_cases h2 : MOk a
  case neg =>
    obtain rfl : res = 3 := by rw [HRES.out]; unfold fitsC; rw [if_pos (fun h => h2 h.2)]
    rw [dec_false h2] at HRA
    have HR2 := Lib.hid HRA
    clear HRA h2
    go_wp2_with fail
    refine HR2.out.mono ?_; rintro e w2 ⟨rfl, hb2⟩
    go_wp2_with fail
    go_ret
    exact ⟨rfl, stepB HB.out (stepB HB1.out hb2)⟩
  case pos =>
  rw [dec_true h2] at HRA
  have HR2 := Lib.hid HRA
  have H2 := Lib.hid h2
  have HF : Hid (fitsC q a = if Kd.ans q.kd a.kd = false then 7 else if q.sq ≠ a.sq then 13 else if a.kd ≠ 14 ∧ q.ep ≠ a.ep then 18 else if a.kd = 12 ∧ a.ls.map (·.1) ≠ q.ss then 16 else 0) := by
    show _ = _
    unfold fitsC
    rw [if_neg (fun h => h ⟨H1.out, H2.out⟩)]
  clear HRA h2
  go_wp2_with fail
  refine HR2.out.mono ?_; rintro e w2 ⟨rfl, hb2⟩
  have HB2 := Lib.hid (stepB HB1.out hb2)
  have KQ2 := Lib.hid (keepB (show Blk w1 w.heap.size 40 (msV q hq) from KQ1.out) hb2)
  have KA2 := Lib.hid (keepB (show Blk w1 (w.heap.size + 1) 40 (msV a ha) from KA1.out) hb2)
  clear r0 r1 r2 r3 r4 r5 r6 r7 r8 r9 r10 r11 r12 r13
  clear hb2
  have p0 : w2.cell? ⟨w.heap.size, 0, none⟩ = some (.int .i64 q.kd) := (show Blk w2 w.heap.size 40 (msV q hq) from KQ2.out).cell 0
  have r0 : w2.cell? ⟨(w.heap.size + 1), 0, none⟩ = some (.int .i64 a.kd) := (show Blk w2 (w.heap.size + 1) 40 (msV a ha) from KA2.out).cell 0
  have HAN := Lib.hid (kanswers_any q.kd a.kd w2)
  obtain ⟨an, han⟩ : ∃ x, Kd.ans q.kd a.kd = x := ⟨_, rfl⟩
  rw [han] at HAN HF
  clear han
  go_wp2_with fail
  refine HAN.out.mono ?_; rintro e w3 ⟨rfl, hb3⟩
  have HB3 := Lib.hid (stepB HB2.out hb3)
  have KQ3 := Lib.hid (keepB (show Blk w2 w.heap.size 40 (msV q hq) from KQ2.out) hb3)
  have KA3 := Lib.hid (keepB (show Blk w2 (w.heap.size + 1) 40 (msV a ha) from KA2.out) hb3)
  have HQ3 := Lib.hid (HQ.out.below HB3.out)
  have HA3 := Lib.hid (HA.out.below HB3.out)
  clear hb3 p0 r0
  cases an
  case false =>
    obtain rfl : res = 7 := by rw [HRES.out, HF.out]; rfl
    go_wp2_with fail
    go_ret
    exact ⟨rfl, stepB HB.out HB3.out⟩
  case true =>
  have p1 : w3.cell? ⟨w.heap.size, 1, none⟩ = some (.int .u64 (q.ep : Int)) := (show Blk w3 w.heap.size 40 (msV q hq) from KQ3.out).cell 1
  have p2 : w3.cell? ⟨w.heap.size, 2, none⟩ = some (.int .u64 (q.sq : Int)) := (show Blk w3 w.heap.size 40 (msV q hq) from KQ3.out).cell 2
  have p6 : w3.cell? ⟨w.heap.size, 6, none⟩ = some (.slice hq.A1 hq.n1 hq.c1) := (show Blk w3 w.heap.size 40 (msV q hq) from KQ3.out).cell 6
  have r0 : w3.cell? ⟨(w.heap.size + 1), 0, none⟩ = some (.int .i64 a.kd) := (show Blk w3 (w.heap.size + 1) 40 (msV a ha) from KA3.out).cell 0
  have r1 : w3.cell? ⟨(w.heap.size + 1), 1, none⟩ = some (.int .u64 (a.ep : Int)) := (show Blk w3 (w.heap.size + 1) 40 (msV a ha) from KA3.out).cell 1
  have r2 : w3.cell? ⟨(w.heap.size + 1), 2, none⟩ = some (.int .u64 (a.sq : Int)) := (show Blk w3 (w.heap.size + 1) 40 (msV a ha) from KA3.out).cell 2
  have r7 : w3.cell? ⟨(w.heap.size + 1), 7, none⟩ = some (.slice ha.A2 ha.n2 ha.c2) := (show Blk w3 (w.heap.size + 1) 40 (msV a ha) from KA3.out).cell 7
  by_cases h3 : q.sq = a.sq
  case neg =>
    obtain rfl : res = 13 := by rw [HRES.out, HF.out, if_neg (by decide), if_pos h3]
    have hd3 : ((q.sq : Int) != (a.sq : Int)) = true := by simp; omega
    clear h3
    go_wp2_with fail
    go_ret
    exact ⟨rfl, stepB HB.out HB3.out⟩
  case pos =>
  have hd3 : ((q.sq : Int) != (a.sq : Int)) = false := by simp; omega
  by_cases h4 : a.kd ≠ 14 ∧ q.ep ≠ a.ep
  case pos =>
    obtain rfl : res = 18 := by rw [HRES.out, HF.out, if_neg (by decide), if_neg (fun h => h h3), if_pos h4]
    have hd4 : (a.kd != 14) = true := by simpa using h4.1
    have hd5 : ((q.ep : Int) != (a.ep : Int)) = true := by have := h4.2; simp; omega
    clear h3 h4
    go_wp2_with fail
    go_ret
    exact ⟨rfl, stepB HB.out HB3.out⟩
  case neg =>
  have HF5 : Hid (res = if a.kd = 12 ∧ a.ls.map (·.1) ≠ q.ss then 16 else 0) := by
    show _ = _
    rw [HRES.out, HF.out, if_neg (by decide), if_neg (fun h => h h3), if_neg h4]
  by_cases h12 : a.kd = 12
  case neg =>
    obtain rfl : res = 0 := by rw [HF5.out, if_neg (fun h => h12 h.1)]
    have hd12 : (a.kd == 12) = false := by simpa using h12
    have hc : (a.kd != 14) = false ∨ ((a.kd != 14) = true ∧ ((q.ep : Int) != (a.ep : Int)) = false) := by
      by_cases hx : a.kd = 14
      · exact .inl (by simpa using hx)
      · exact .inr ⟨by simpa using hx, by have : q.ep = a.ep := Decidable.byContradiction fun hn => h4 ⟨hx, hn⟩
                                          simp [this]⟩
    clear h3 h4 h12
    rcases hc with hd4 | ⟨hd4, hd5⟩
    all_goals
      go_upto_region 9 with (fail)
      have k0 : ∀ q : Gr w3.heap.size w3, q.val.cell? ⟨w.heap.size + 1, 0, none⟩ = some (.int .i64 a.kd) := fun q => (q.is.cell (p := ⟨w.heap.size + 1, 0, none⟩) (show Blk w3 (w.heap.size + 1) 40 (msV a ha) from KA3.out).lt).trans r0
      refine wp_region_grow (by kernel_rfl) (by kernel_rfl) w3.heap.size ?_
      repeat (first | go_big_quiet_step (fail) | quiet_step (fail))
      refine wpQuiet_nil ?_
      rintro w5 ⟨⟨_, hb5⟩, rfl⟩
      go_wp2_with fail
      go_ret
      exact ⟨rfl, stepB HB.out (stepB HB3.out hb5)⟩
  case pos =>
  have hd12 : (a.kd == 12) = true := by simpa using h12
  have hd4 : (a.kd != 14) = true := by simp [h12]
  have hd5 : ((q.ep : Int) != (a.ep : Int)) = false := by
    have : q.ep = a.ep := Decidable.byContradiction fun hn => h4 ⟨by omega, hn⟩
    simp [this]
  have hn16 : ha.n2 ≤ 1000 := by
    have hp := H2.out.1.2.2.2.2.2.1
    unfold part at hp
    have e : Kd.has a.kd 16 = true := by rw [h12]; decide
    rw [if_pos e] at hp
    have h1 := hp.1
    have h2 := (Rp.sl_len HA3.out.ls).1
    omega
  have HST : Hid (∀ u, Below w3.heap.size w3 u → Calls Try.prog 56 #[.slice ha.A2 ha.n2 ha.c2] u fun e w' => ∃ A2 c2, e = .returned (.slice A2 ha.n2 c2) ∧ w'.ownsRow u.heap.size 29 1 (.slice A2 ha.n2 c2) ha.n2 ((a.ls.map (·.1)).map uv) ∧ (∀ y ∈ a.ls.map (·.1), y < 18446744073709551616) ∧ Below u.heap.size u w') := fun u hu => kstrm_any (HA3.out.below hu).ls (HA3.out.below hu).dom hn16
  have hlp := (show Blk w3 w.heap.size 40 (msV q hq) from KQ3.out).lt
  have hlr := (show Blk w3 (w.heap.size + 1) 40 (msV a ha) from KA3.out).lt
  have HE12 := Lib.hid h12
  clear h3 h4 h12 hn16
  by_cases heq : a.ls.map (·.1) = q.ss
  case pos =>
    obtain rfl : res = 0 := by rw [HF5.out, if_neg (fun h => h.2 heq)]
    have HEQ : Hid (dec (a.ls.map (·.1) = q.ss) = true) := dec_true heq
    clear heq
    go_upto_region 9 with (fail)
    clear hd3 hd4 hd5 p1 p2 r1 r2
    go_region_law ((first
      | (go_simp; refine (HST.out _ ((Below.refl _ _).drew)).mono ?_; rintro e w4 ⟨A2, c2, rfl, hown, hlt, hb4⟩
         have hb4' : Below w3.heap.size w3 w4 := ⟨hb4.os, hb4.tape, hb4.output, hb4.size, hb4.block⟩
         have HO4 := Lib.hid (own_u64 hown hlt)
         have HOD := Lib.hid (own_dom hown)
         have HB4 := Lib.hid hb4'
         have p6b := (hb4'.cell (p := ⟨w.heap.size, 6, none⟩) hlp).trans p6
         have HEE := Lib.hid (eq64_any HO4.out (HQ3.out.below hb4').ss HOD.out (HQ3.out.below hb4').dom)
         clear hown hlt hb4 hb4'
         dsimp only)
      | (go_simp; refine HEE.out.mono ?_; rintro e w6 ⟨rfl, hb6⟩
         have HB6 := Lib.hid (stepB HB4.out hb6)
         rw [HEQ.out]
         clear hb6
         dsimp only)))
    all_goals
      go_wp2_with fail
      go_ret
      exact ⟨rfl, stepB HB.out (stepB HB3.out HB6.out)⟩
  case neg =>
    obtain rfl : res = 16 := by rw [HF5.out, if_pos ⟨HE12.out, heq⟩]
    have HEQ : Hid (dec (a.ls.map (·.1) = q.ss) = false) := dec_false heq
    clear heq
    go_upto_region 9 with (fail)
    clear hd3 hd4 hd5 p1 p2 r1 r2
    go_region_law ((first
      | (go_simp; refine (HST.out _ ((Below.refl _ _).drew)).mono ?_; rintro e w4 ⟨A2, c2, rfl, hown, hlt, hb4⟩
         have hb4' : Below w3.heap.size w3 w4 := ⟨hb4.os, hb4.tape, hb4.output, hb4.size, hb4.block⟩
         have HO4 := Lib.hid (own_u64 hown hlt)
         have HOD := Lib.hid (own_dom hown)
         have HB4 := Lib.hid hb4'
         have p6b := (hb4'.cell (p := ⟨w.heap.size, 6, none⟩) hlp).trans p6
         have HEE := Lib.hid (eq64_any HO4.out (HQ3.out.below hb4').ss HOD.out (HQ3.out.below hb4').dom)
         clear hown hlt hb4 hb4'
         dsimp only)
      | (go_simp; refine HEE.out.mono ?_; rintro e w6 ⟨rfl, hb6⟩
         have HB6 := Lib.hid (stepB HB4.out hb6)
         rw [HEQ.out]
         clear hb6
         dsimp only)))
    all_goals
      go_wp2_with fail
      go_ret
      exact ⟨rfl, stepB HB.out (stepB HB3.out HB6.out)⟩
end
end Go.Proofs.Ytnihaaifkogpbaa
/- An answer goes into the log. -/
namespace Go.Proofs.Ytnihaaifkogpbaa
open Go.ChangeShapes Go.WideShapes Go.ChangeAt Go.RowKit
set_option linter.unusedVariables false
theorem blk_ne {w : World} {g g' : Nat} {t t' : TypeId} {cs cs' : Array Value} (h : Blk w g t cs) (h' : Blk w g' t' cs') (hne : t ≠ t') : g ≠ g' := fun e => by
  subst e
  have h1 : w.heap[g]? = some (.cells cs t) := h
  have h2 : w.heap[g]? = some (.cells cs' t') := h'
  rw [h1] at h2
  injection h2 with h2
  injection h2 with _ h2
  exact hne h2
/-- The messages, the one that comes, and the log. -/
structure AnsIn (w : World) (D : Dom) (A : Option Addr) (n c : Nat) (l : List Ms) (i : Nat) (m : Ms) (base b : Nat) (A' : Option Addr) (c' bm : Nat) (ps : List Pr2) (f : Nat → Option Nat) (last : Nat) (begun : Bool) : Prop where
  sl : rpMs.sl w D A n c l
  dom : ∀ k, D k → k < base
  lt : i < n
  at_ : l[i]? = some m
  log : LogIn w base b A' c' bm ps f last begun
  n0 : ps.length ≤ 1000
  ps0 : ∀ x ∈ ps, x.1 < n
section
variable {w : World} {D : Dom} {A A' : Option Addr} {n c c' i base b bm : Nat} {l : List Ms} {m : Ms} {ps : List Pr2} {f : Nat → Option Nat} {last : Nat} {begun : Bool}
theorem AnsIn.dom' (h : AnsIn w D A n c l i m base b A' c' bm ps f last begun) : ∀ k, D k → k < w.heap.size := fun k hk => Nat.lt_of_lt_of_le (h.dom k hk) h.log.size
theorem AnsIn.below {w' : World} (h : AnsIn w D A n c l i m base b A' c' bm ps f last begun) (hb : Below w.heap.size w w') : AnsIn w' D A n c l i m base b A' c' bm ps f last begun :=
  ⟨Rp.sl_below h.sl hb h.dom', h.dom, h.lt, h.at_, h.log.below hb, h.n0, h.ps0⟩
set_option maxRecDepth 100000 in
set_option maxHeartbeats 4000000 in
theorem answers_none (h : AnsIn w D A n c l i m base b A' c' bm ps f last begun) (hf : f m.sq = none) :
    Calls Try.prog 39 #[.pointer (some ⟨b, 0, none⟩), .slice A n c, .int .i64 (i : Int)] w fun e w' => ∃ r : Int, e = .returned (.int .i64 r) ∧ (AskIn l ps m.sq ps.length ∧ r = 18 ∨ ¬ AskIn l ps m.sq ps.length ∧ r = 16) ∧ Below w.heap.size w w' := by
  have HF0 := Lib.hid hf
  clear hf
  have hb0 := below1 w (.cells #[.slice A n c] 47)
  have HB := Lib.hid hb0
  have HK := Lib.hid (blk11 w 47 #[.slice A n c])
  have HI := Lib.hid (h.below hb0)
  have HZ := Lib.hid h.log.size
  clear hb0 h
  go_enter Try.func39, Try.ntmps39
  go_upto_region 1 with (fail)
  generalize World.alloc w _ = w0 at *
  have k0 := (show Blk w0 w.heap.size 47 _ from HK.out).cell 0
  have hz0 : w.heap.size < w0.heap.size := (show Blk w0 w.heap.size 47 _ from HK.out).lt
  have hlt := HI.out.lt
  have hkI : (0 : Int) ≤ (i : Int) := by omega
  have hkI2 : (i : Int) < (n : Int) := by omega
  have HIC := Lib.hid HI.out
  obtain ⟨bo, off, m', hd, hA, hD, hm, hin, hc⟩ := ms_at HI.out.sl HI.out.dom' HI.out.lt
  rw [HI.out.at_] at hm
  injection hm with hm
  subst hm
  have hbo : bo < base := HI.out.dom _ hD
  subst hA
  have HIN := Lib.hid hin
  have e0 : w0.cell? ⟨bo, off + i * 14, none⟩ = some (.int .i64 m.kd) := hc 0 _ rfl
  have e1 : w0.cell? ⟨bo, off + i * 14 + 1, none⟩ = some (.int .u64 (m.ep : Int)) := hc 1 _ rfl
  have e2 : w0.cell? ⟨bo, off + i * 14 + 2, none⟩ = some (.int .u64 (m.sq : Int)) := hc 2 _ rfl
  have e3 : w0.cell? ⟨bo, off + i * 14 + 3, none⟩ = some (.int .u64 (m.ps : Int)) := hc 3 _ rfl
  have e4 : w0.cell? ⟨bo, off + i * 14 + 4, none⟩ = some (.int .i64 m.ct) := hc 4 _ rfl
  have e5 : w0.cell? ⟨bo, off + i * 14 + 5, none⟩ = some (.int .i64 m.st) := hc 5 _ rfl
  have e6 : w0.cell? ⟨bo, off + i * 14 + 6, none⟩ = some (.slice hd.A1 hd.n1 hd.c1) := hc 6 _ rfl
  have e7 : w0.cell? ⟨bo, off + i * 14 + 7, none⟩ = some (.slice hd.A2 hd.n2 hd.c2) := hc 7 _ rfl
  have e8 : w0.cell? ⟨bo, off + i * 14 + 8, none⟩ = some (.slice hd.A3 hd.n3 hd.c3) := hc 8 _ rfl
  have e9 : w0.cell? ⟨bo, off + i * 14 + 9, none⟩ = some (.int .u64 (m.se.1 : Int)) := hc 9 _ rfl
  have e10 : w0.cell? ⟨bo, off + i * 14 + 10, none⟩ = some (.int .u64 (m.se.2.1 : Int)) := hc 10 _ rfl
  have e11 : w0.cell? ⟨bo, off + i * 14 + 11, none⟩ = some (.int .u64 (m.se.2.2 : Int)) := hc 11 _ rfl
  have e12 : w0.cell? ⟨bo, off + i * 14 + 12, none⟩ = some (.int .u64 (m.pr.1 : Int)) := hc 12 _ rfl
  have e13 : w0.cell? ⟨bo, off + i * 14 + 13, none⟩ = some (.slice hd.A4 hd.n4 hd.c4) := hc 13 _ rfl
  have hba := below1 w0 (.cells (msV m hd) 40)
  have HB1 := Lib.hid (stepB HB.out hba)
  have HK1 := Lib.hid (blk11 w0 40 (msV m hd))
  have HI1 := Lib.hid (HI.out.below hba)
  have HIN1 := Lib.hid (hin.below hba)
  have HBX : Hid (Blk (w0.alloc (.cells (msV m hd) 40)) w.heap.size 47 #[.slice (some ⟨bo, off, none⟩) n c]) := Lib.hid (keepB (show Blk w0 w.heap.size 47 _ from HK.out) hba)
  clear hin hc hba hD
  go_upto_region 2 with (fail)
  clear e0 e1 e2 e3 e4 e5 e6 e7 e8 e9 e10 e11 e12 e13
  generalize World.alloc w0 _ = w1 at *
  clear k0
  have HL := HI1.out.log
  have hlk := HL.map.look HIN1.out.sq1
  obtain ⟨cv, hcv, hlook⟩ := hlk
  have HCV := Lib.hid hcv
  obtain ⟨fo, hfo⟩ : ∃ q, (f m.sq).isSome = q := ⟨_, rfl⟩
  rw [hfo] at hlook
  have HFO := Lib.hid hfo
  have HLOG := Lib.hid HL
  have hle := fun u : Gr w1.heap.size w1 => hlook u.val (u.is.block bm HL.map.lt)
  have g1 : ∀ x : Gr w1.heap.size w1, x.val.cell? ⟨b, 1, none⟩ = some (.map (some bm)) := fun x => (x.is.cell (p := ⟨b, 1, none⟩) HL.blk.lt).trans ((show Blk w1 b 89 (logV A' ps.length c' bm last begun) from HLOG.out.blk).cell 1)
  have r2 : ∀ x : Gr w1.heap.size w1, x.val.cell? ⟨w0.heap.size, 2, none⟩ = some (.int .u64 (m.sq : Int)) := fun x => (x.is.cell (p := ⟨w0.heap.size, 2, none⟩) (show Blk w1 w0.heap.size 40 (msV m hd) from HK1.out).lt).trans ((show Blk w1 w0.heap.size 40 (msV m hd) from HK1.out).cell 2)
  clear hcv hfo hlook HL
  refine wp_region_grow (by kernel_rfl) (by kernel_rfl) w1.heap.size ?_
  repeat (first | go_big_quiet_step (fail) | quiet_step (fail))
  refine wpQuiet_nil ?_
  rintro w2 ⟨⟨_, hb2⟩, rfl⟩
  have HB2 := Lib.hid (stepB HB1.out hb2)
  have HI2 := Lib.hid (HI1.out.below hb2)
  have HIN2 := Lib.hid (HIN1.out.below hb2)
  have HK2 : Hid (Blk w2 w0.heap.size 40 (msV m hd)) := Lib.hid (keepB (show Blk w1 w0.heap.size 40 (msV m hd) from HK1.out) hb2)
  have HX2 : Hid (Blk w2 w.heap.size 47 #[.slice (some ⟨bo, off, none⟩) n c]) := Lib.hid (keepB (show Blk w1 w.heap.size 47 #[.slice (some ⟨bo, off, none⟩) n c] from HBX.out) hb2)
  clear hb2 hle g1 r2
  obtain rfl : fo = false := by rw [← HFO.out, HF0.out]; rfl
  have hg0 : w2.cell? ⟨b, 0, none⟩ = some (.slice A' ps.length c') := (show Blk w2 b 89 (logV A' ps.length c' bm last begun) from HI2.out.log.blk).cell 0
  have hgl := (show Blk w2 w.heap.size 47 #[.slice (some ⟨bo, off, none⟩) n c] from HX2.out)
  have hga := (show Blk w2 w0.heap.size 40 (msV m hd) from HK2.out)
  have HCN := Lib.hid (acont_any (c' := c') (s := m.sq) (gl := w.heap.size) (ga := w0.heap.size) (l := l) ⟨HI2.out.sl, HI2.out.dom', hgl.cell 0, hgl.lt, hga.cell 2, hga.lt⟩ (prIn_own HI2.out.log.own) HI2.out.ps0 HI2.out.n0)
  clear hgl hga
  obtain ⟨aq, haq⟩ : ∃ q, dec (AskIn l ps m.sq ps.length) = q := ⟨_, rfl⟩
  rw [haq] at HCN
  have HAQ := Lib.hid haq
  clear haq
  go_wp2_with fail
  refine HCN.out.mono ?_; rintro e w3 ⟨rfl, hb3⟩
  have HB3 := Lib.hid (stepB HB2.out hb3)
  clear hb3 hg0
  cases aq
  case true =>
    go_wp2_with fail
    go_ret
    exact ⟨18, rfl, .inl ⟨of_dec HAQ.out, rfl⟩, HB3.out⟩
  case false =>
    go_wp2_with fail
    go_ret
    exact ⟨16, rfl, .inr ⟨of_not_dec HAQ.out, rfl⟩, HB3.out⟩
set_option maxRecDepth 100000 in
set_option maxHeartbeats 4000000 in
theorem answers_bad (h : AnsIn w D A n c l i m base b A' c' bm ps f last begun) {p k : Nat} {q : Ms} (hf : f m.sq = some p) (hp : ps[p]? = some (k, -1)) (hq : l[k]? = some q) (h0 : fitsC q m ≠ 0) :
    Calls Try.prog 39 #[.pointer (some ⟨b, 0, none⟩), .slice A n c, .int .i64 (i : Int)] w fun e w' => e = .returned (.int .i64 (fitsC q m)) ∧ Below w.heap.size w w' := by
  have HF0 := Lib.hid hf
  have HPK := Lib.hid hp
  have HQ := Lib.hid hq
  have hd0 : (fitsC q m != 0) = true := by simpa using h0
  clear hf hp hq h0
  have hb0 := below1 w (.cells #[.slice A n c] 47)
  have HB := Lib.hid hb0
  have HK := Lib.hid (blk11 w 47 #[.slice A n c])
  have HI := Lib.hid (h.below hb0)
  have HZ := Lib.hid h.log.size
  clear hb0 h
  go_enter Try.func39, Try.ntmps39
  go_upto_region 1 with (fail)
  generalize World.alloc w _ = w0 at *
  have k0 := (show Blk w0 w.heap.size 47 _ from HK.out).cell 0
  have hz0 : w.heap.size < w0.heap.size := (show Blk w0 w.heap.size 47 _ from HK.out).lt
  have hlt := HI.out.lt
  have hkI : (0 : Int) ≤ (i : Int) := by omega
  have hkI2 : (i : Int) < (n : Int) := by omega
  have HIC := Lib.hid HI.out
  obtain ⟨bo, off, m', hd, hA, hD, hm, hin, hc⟩ := ms_at HI.out.sl HI.out.dom' HI.out.lt
  rw [HI.out.at_] at hm
  injection hm with hm
  subst hm
  have hbo : bo < base := HI.out.dom _ hD
  subst hA
  have HIN := Lib.hid hin
  have e0 : w0.cell? ⟨bo, off + i * 14, none⟩ = some (.int .i64 m.kd) := hc 0 _ rfl
  have e1 : w0.cell? ⟨bo, off + i * 14 + 1, none⟩ = some (.int .u64 (m.ep : Int)) := hc 1 _ rfl
  have e2 : w0.cell? ⟨bo, off + i * 14 + 2, none⟩ = some (.int .u64 (m.sq : Int)) := hc 2 _ rfl
  have e3 : w0.cell? ⟨bo, off + i * 14 + 3, none⟩ = some (.int .u64 (m.ps : Int)) := hc 3 _ rfl
  have e4 : w0.cell? ⟨bo, off + i * 14 + 4, none⟩ = some (.int .i64 m.ct) := hc 4 _ rfl
  have e5 : w0.cell? ⟨bo, off + i * 14 + 5, none⟩ = some (.int .i64 m.st) := hc 5 _ rfl
  have e6 : w0.cell? ⟨bo, off + i * 14 + 6, none⟩ = some (.slice hd.A1 hd.n1 hd.c1) := hc 6 _ rfl
  have e7 : w0.cell? ⟨bo, off + i * 14 + 7, none⟩ = some (.slice hd.A2 hd.n2 hd.c2) := hc 7 _ rfl
  have e8 : w0.cell? ⟨bo, off + i * 14 + 8, none⟩ = some (.slice hd.A3 hd.n3 hd.c3) := hc 8 _ rfl
  have e9 : w0.cell? ⟨bo, off + i * 14 + 9, none⟩ = some (.int .u64 (m.se.1 : Int)) := hc 9 _ rfl
  have e10 : w0.cell? ⟨bo, off + i * 14 + 10, none⟩ = some (.int .u64 (m.se.2.1 : Int)) := hc 10 _ rfl
  have e11 : w0.cell? ⟨bo, off + i * 14 + 11, none⟩ = some (.int .u64 (m.se.2.2 : Int)) := hc 11 _ rfl
  have e12 : w0.cell? ⟨bo, off + i * 14 + 12, none⟩ = some (.int .u64 (m.pr.1 : Int)) := hc 12 _ rfl
  have e13 : w0.cell? ⟨bo, off + i * 14 + 13, none⟩ = some (.slice hd.A4 hd.n4 hd.c4) := hc 13 _ rfl
  have hba := below1 w0 (.cells (msV m hd) 40)
  have HB1 := Lib.hid (stepB HB.out hba)
  have HK1 := Lib.hid (blk11 w0 40 (msV m hd))
  have HI1 := Lib.hid (HI.out.below hba)
  have HIN1 := Lib.hid (hin.below hba)
  have HBX : Hid (Blk (w0.alloc (.cells (msV m hd) 40)) w.heap.size 47 #[.slice (some ⟨bo, off, none⟩) n c]) := Lib.hid (keepB (show Blk w0 w.heap.size 47 _ from HK.out) hba)
  clear hin hc hba hD
  go_upto_region 2 with (fail)
  clear e0 e1 e2 e3 e4 e5 e6 e7 e8 e9 e10 e11 e12 e13
  generalize World.alloc w0 _ = w1 at *
  clear k0
  have HL := HI1.out.log
  have hlk := HL.map.look HIN1.out.sq1
  obtain ⟨cv, hcv, hlook⟩ := hlk
  have HCV := Lib.hid hcv
  obtain ⟨fo, hfo⟩ : ∃ q, (f m.sq).isSome = q := ⟨_, rfl⟩
  rw [hfo] at hlook
  have HFO := Lib.hid hfo
  have HLOG := Lib.hid HL
  have hle := fun u : Gr w1.heap.size w1 => hlook u.val (u.is.block bm HL.map.lt)
  have g1 : ∀ x : Gr w1.heap.size w1, x.val.cell? ⟨b, 1, none⟩ = some (.map (some bm)) := fun x => (x.is.cell (p := ⟨b, 1, none⟩) HL.blk.lt).trans ((show Blk w1 b 89 (logV A' ps.length c' bm last begun) from HLOG.out.blk).cell 1)
  have r2 : ∀ x : Gr w1.heap.size w1, x.val.cell? ⟨w0.heap.size, 2, none⟩ = some (.int .u64 (m.sq : Int)) := fun x => (x.is.cell (p := ⟨w0.heap.size, 2, none⟩) (show Blk w1 w0.heap.size 40 (msV m hd) from HK1.out).lt).trans ((show Blk w1 w0.heap.size 40 (msV m hd) from HK1.out).cell 2)
  clear hcv hfo hlook HL
  refine wp_region_grow (by kernel_rfl) (by kernel_rfl) w1.heap.size ?_
  repeat (first | go_big_quiet_step (fail) | quiet_step (fail))
  refine wpQuiet_nil ?_
  rintro w2 ⟨⟨_, hb2⟩, rfl⟩
  have HB2 := Lib.hid (stepB HB1.out hb2)
  have HI2 := Lib.hid (HI1.out.below hb2)
  have HIN2 := Lib.hid (HIN1.out.below hb2)
  have HK2 : Hid (Blk w2 w0.heap.size 40 (msV m hd)) := Lib.hid (keepB (show Blk w1 w0.heap.size 40 (msV m hd) from HK1.out) hb2)
  have HX2 : Hid (Blk w2 w.heap.size 47 #[.slice (some ⟨bo, off, none⟩) n c]) := Lib.hid (keepB (show Blk w1 w.heap.size 47 #[.slice (some ⟨bo, off, none⟩) n c] from HBX.out) hb2)
  clear hb2 hle g1 r2
  obtain rfl : fo = true := by rw [← HFO.out, HF0.out]; rfl
  obtain rfl : cv = (p : Int) := HCV.out p HF0.out
  have hpl : p < ps.length := (List.getElem?_eq_some_iff.1 HPK.out).1
  have hpI : (0 : Int) ≤ (p : Int) := by omega
  have hpI2 : (p : Int) < (ps.length : Int) := by omega
  obtain ⟨g, hg, hgl, gk0, gk1⟩ := (prIn_own HI2.out.log.own).2 p (k, -1) HPK.out
  have hkn : k < n := HI2.out.ps0 _ (List.mem_of_getElem? HPK.out)
  have hnI : (0 : Int) ≤ (k : Int) := by omega
  have hnI2 : (k : Int) < (n : Int) := by omega
  obtain ⟨bo2, off2, q', hdq, hA2, hD2, hm2, hin2, hc2⟩ := ms_at HI2.out.sl HI2.out.dom' hkn
  injection hA2 with hA2
  injection hA2 with e1 e2
  subst e1; subst e2
  rw [HQ.out] at hm2
  injection hm2 with hm2
  subst hm2
  have hbo2 : bo < w2.heap.size := HI2.out.dom' _ hD2
  have HFT := Lib.hid (fun u (hu : Below w2.heap.size w2 u) => kfits_any (hin2.below hu) (HIN2.out.below hu))
  subst hg
  clear hD2
  have a0 : ∀ x : Gr w2.heap.size w2, x.val.cell? ⟨w.heap.size, 0, none⟩ = some (.slice (some ⟨bo, off, none⟩) n c) := fun x => (x.is.cell (p := ⟨w.heap.size, 0, none⟩) (show Blk w2 w.heap.size 47 #[.slice (some ⟨bo, off, none⟩) n c] from HX2.out).lt).trans ((show Blk w2 w.heap.size 47 #[.slice (some ⟨bo, off, none⟩) n c] from HX2.out).cell 0)
  have a1 : ∀ x : Gr w2.heap.size w2, x.val.cell? ⟨b, 0, none⟩ = some (.slice (some ⟨g, 0, none⟩) ps.length c') := fun x => (x.is.cell (p := ⟨b, 0, none⟩) HI2.out.log.blk.lt).trans ((show Blk w2 b 89 (logV (some ⟨g, 0, none⟩) ps.length c' bm last begun) from HI2.out.log.blk).cell 0)
  have a2 : ∀ x : Gr w2.heap.size w2, x.val.cell? ⟨g, 0 + p * 2, none⟩ = some (.int .i64 (k : Int)) := fun x => by rw [Nat.zero_add]; exact (x.is.cell (p := ⟨g, p * 2, none⟩) hgl).trans gk0
  have a3 : ∀ x : Gr w2.heap.size w2, x.val.cell? ⟨g, p * 2, none⟩ = some (.int .i64 (k : Int)) := fun x => (x.is.cell (p := ⟨g, p * 2, none⟩) hgl).trans gk0
  have y0 : ∀ x : Gr w2.heap.size w2, x.val.cell? ⟨bo, off + k * 14, none⟩ = some (.int .i64 q.kd) := fun x => (x.is.cell (p := ⟨bo, off + k * 14, none⟩) hbo2).trans (hc2 0 _ rfl)
  have y1 : ∀ x : Gr w2.heap.size w2, x.val.cell? ⟨bo, off + k * 14 + 1, none⟩ = some (.int .u64 (q.ep : Int)) := fun x => (x.is.cell (p := ⟨bo, off + k * 14 + 1, none⟩) hbo2).trans (hc2 1 _ rfl)
  have y2 : ∀ x : Gr w2.heap.size w2, x.val.cell? ⟨bo, off + k * 14 + 2, none⟩ = some (.int .u64 (q.sq : Int)) := fun x => (x.is.cell (p := ⟨bo, off + k * 14 + 2, none⟩) hbo2).trans (hc2 2 _ rfl)
  have y3 : ∀ x : Gr w2.heap.size w2, x.val.cell? ⟨bo, off + k * 14 + 3, none⟩ = some (.int .u64 (q.ps : Int)) := fun x => (x.is.cell (p := ⟨bo, off + k * 14 + 3, none⟩) hbo2).trans (hc2 3 _ rfl)
  have y4 : ∀ x : Gr w2.heap.size w2, x.val.cell? ⟨bo, off + k * 14 + 4, none⟩ = some (.int .i64 q.ct) := fun x => (x.is.cell (p := ⟨bo, off + k * 14 + 4, none⟩) hbo2).trans (hc2 4 _ rfl)
  have y5 : ∀ x : Gr w2.heap.size w2, x.val.cell? ⟨bo, off + k * 14 + 5, none⟩ = some (.int .i64 q.st) := fun x => (x.is.cell (p := ⟨bo, off + k * 14 + 5, none⟩) hbo2).trans (hc2 5 _ rfl)
  have y6 : ∀ x : Gr w2.heap.size w2, x.val.cell? ⟨bo, off + k * 14 + 6, none⟩ = some (.slice hdq.A1 hdq.n1 hdq.c1) := fun x => (x.is.cell (p := ⟨bo, off + k * 14 + 6, none⟩) hbo2).trans (hc2 6 _ rfl)
  have y7 : ∀ x : Gr w2.heap.size w2, x.val.cell? ⟨bo, off + k * 14 + 7, none⟩ = some (.slice hdq.A2 hdq.n2 hdq.c2) := fun x => (x.is.cell (p := ⟨bo, off + k * 14 + 7, none⟩) hbo2).trans (hc2 7 _ rfl)
  have y8 : ∀ x : Gr w2.heap.size w2, x.val.cell? ⟨bo, off + k * 14 + 8, none⟩ = some (.slice hdq.A3 hdq.n3 hdq.c3) := fun x => (x.is.cell (p := ⟨bo, off + k * 14 + 8, none⟩) hbo2).trans (hc2 8 _ rfl)
  have y9 : ∀ x : Gr w2.heap.size w2, x.val.cell? ⟨bo, off + k * 14 + 9, none⟩ = some (.int .u64 (q.se.1 : Int)) := fun x => (x.is.cell (p := ⟨bo, off + k * 14 + 9, none⟩) hbo2).trans (hc2 9 _ rfl)
  have y10 : ∀ x : Gr w2.heap.size w2, x.val.cell? ⟨bo, off + k * 14 + 10, none⟩ = some (.int .u64 (q.se.2.1 : Int)) := fun x => (x.is.cell (p := ⟨bo, off + k * 14 + 10, none⟩) hbo2).trans (hc2 10 _ rfl)
  have y11 : ∀ x : Gr w2.heap.size w2, x.val.cell? ⟨bo, off + k * 14 + 11, none⟩ = some (.int .u64 (q.se.2.2 : Int)) := fun x => (x.is.cell (p := ⟨bo, off + k * 14 + 11, none⟩) hbo2).trans (hc2 11 _ rfl)
  have y12 : ∀ x : Gr w2.heap.size w2, x.val.cell? ⟨bo, off + k * 14 + 12, none⟩ = some (.int .u64 (q.pr.1 : Int)) := fun x => (x.is.cell (p := ⟨bo, off + k * 14 + 12, none⟩) hbo2).trans (hc2 12 _ rfl)
  have y13 : ∀ x : Gr w2.heap.size w2, x.val.cell? ⟨bo, off + k * 14 + 13, none⟩ = some (.slice hdq.A4 hdq.n4 hdq.c4) := fun x => (x.is.cell (p := ⟨bo, off + k * 14 + 13, none⟩) hbo2).trans (hc2 13 _ rfl)
  have z0 : ∀ x : Gr w2.heap.size w2, x.val.cell? ⟨w0.heap.size, 0, none⟩ = some (.int .i64 m.kd) := fun x => (x.is.cell (p := ⟨w0.heap.size, 0, none⟩) (show Blk w2 (w0.heap.size) 40 (msV m hd) from HK2.out).lt).trans ((show Blk w2 (w0.heap.size) 40 (msV m hd) from HK2.out).cell 0)
  have z1 : ∀ x : Gr w2.heap.size w2, x.val.cell? ⟨w0.heap.size, 1, none⟩ = some (.int .u64 (m.ep : Int)) := fun x => (x.is.cell (p := ⟨w0.heap.size, 1, none⟩) (show Blk w2 (w0.heap.size) 40 (msV m hd) from HK2.out).lt).trans ((show Blk w2 (w0.heap.size) 40 (msV m hd) from HK2.out).cell 1)
  have z2 : ∀ x : Gr w2.heap.size w2, x.val.cell? ⟨w0.heap.size, 2, none⟩ = some (.int .u64 (m.sq : Int)) := fun x => (x.is.cell (p := ⟨w0.heap.size, 2, none⟩) (show Blk w2 (w0.heap.size) 40 (msV m hd) from HK2.out).lt).trans ((show Blk w2 (w0.heap.size) 40 (msV m hd) from HK2.out).cell 2)
  have z3 : ∀ x : Gr w2.heap.size w2, x.val.cell? ⟨w0.heap.size, 3, none⟩ = some (.int .u64 (m.ps : Int)) := fun x => (x.is.cell (p := ⟨w0.heap.size, 3, none⟩) (show Blk w2 (w0.heap.size) 40 (msV m hd) from HK2.out).lt).trans ((show Blk w2 (w0.heap.size) 40 (msV m hd) from HK2.out).cell 3)
  have z4 : ∀ x : Gr w2.heap.size w2, x.val.cell? ⟨w0.heap.size, 4, none⟩ = some (.int .i64 m.ct) := fun x => (x.is.cell (p := ⟨w0.heap.size, 4, none⟩) (show Blk w2 (w0.heap.size) 40 (msV m hd) from HK2.out).lt).trans ((show Blk w2 (w0.heap.size) 40 (msV m hd) from HK2.out).cell 4)
  have z5 : ∀ x : Gr w2.heap.size w2, x.val.cell? ⟨w0.heap.size, 5, none⟩ = some (.int .i64 m.st) := fun x => (x.is.cell (p := ⟨w0.heap.size, 5, none⟩) (show Blk w2 (w0.heap.size) 40 (msV m hd) from HK2.out).lt).trans ((show Blk w2 (w0.heap.size) 40 (msV m hd) from HK2.out).cell 5)
  have z6 : ∀ x : Gr w2.heap.size w2, x.val.cell? ⟨w0.heap.size, 6, none⟩ = some (.slice hd.A1 hd.n1 hd.c1) := fun x => (x.is.cell (p := ⟨w0.heap.size, 6, none⟩) (show Blk w2 (w0.heap.size) 40 (msV m hd) from HK2.out).lt).trans ((show Blk w2 (w0.heap.size) 40 (msV m hd) from HK2.out).cell 6)
  have z7 : ∀ x : Gr w2.heap.size w2, x.val.cell? ⟨w0.heap.size, 7, none⟩ = some (.slice hd.A2 hd.n2 hd.c2) := fun x => (x.is.cell (p := ⟨w0.heap.size, 7, none⟩) (show Blk w2 (w0.heap.size) 40 (msV m hd) from HK2.out).lt).trans ((show Blk w2 (w0.heap.size) 40 (msV m hd) from HK2.out).cell 7)
  have z8 : ∀ x : Gr w2.heap.size w2, x.val.cell? ⟨w0.heap.size, 8, none⟩ = some (.slice hd.A3 hd.n3 hd.c3) := fun x => (x.is.cell (p := ⟨w0.heap.size, 8, none⟩) (show Blk w2 (w0.heap.size) 40 (msV m hd) from HK2.out).lt).trans ((show Blk w2 (w0.heap.size) 40 (msV m hd) from HK2.out).cell 8)
  have z9 : ∀ x : Gr w2.heap.size w2, x.val.cell? ⟨w0.heap.size, 9, none⟩ = some (.int .u64 (m.se.1 : Int)) := fun x => (x.is.cell (p := ⟨w0.heap.size, 9, none⟩) (show Blk w2 (w0.heap.size) 40 (msV m hd) from HK2.out).lt).trans ((show Blk w2 (w0.heap.size) 40 (msV m hd) from HK2.out).cell 9)
  have z10 : ∀ x : Gr w2.heap.size w2, x.val.cell? ⟨w0.heap.size, 10, none⟩ = some (.int .u64 (m.se.2.1 : Int)) := fun x => (x.is.cell (p := ⟨w0.heap.size, 10, none⟩) (show Blk w2 (w0.heap.size) 40 (msV m hd) from HK2.out).lt).trans ((show Blk w2 (w0.heap.size) 40 (msV m hd) from HK2.out).cell 10)
  have z11 : ∀ x : Gr w2.heap.size w2, x.val.cell? ⟨w0.heap.size, 11, none⟩ = some (.int .u64 (m.se.2.2 : Int)) := fun x => (x.is.cell (p := ⟨w0.heap.size, 11, none⟩) (show Blk w2 (w0.heap.size) 40 (msV m hd) from HK2.out).lt).trans ((show Blk w2 (w0.heap.size) 40 (msV m hd) from HK2.out).cell 11)
  have z12 : ∀ x : Gr w2.heap.size w2, x.val.cell? ⟨w0.heap.size, 12, none⟩ = some (.int .u64 (m.pr.1 : Int)) := fun x => (x.is.cell (p := ⟨w0.heap.size, 12, none⟩) (show Blk w2 (w0.heap.size) 40 (msV m hd) from HK2.out).lt).trans ((show Blk w2 (w0.heap.size) 40 (msV m hd) from HK2.out).cell 12)
  have z13 : ∀ x : Gr w2.heap.size w2, x.val.cell? ⟨w0.heap.size, 13, none⟩ = some (.slice hd.A4 hd.n4 hd.c4) := fun x => (x.is.cell (p := ⟨w0.heap.size, 13, none⟩) (show Blk w2 (w0.heap.size) 40 (msV m hd) from HK2.out).lt).trans ((show Blk w2 (w0.heap.size) 40 (msV m hd) from HK2.out).cell 13)
  clear hc2 gk0 gk1 hin2
  go_upto_region 8 with (fail)
  refine wp_region_grow (by kernel_rfl) (by kernel_rfl) w2.heap.size ?_
  repeat (first | go_big_quiet_step ((go_at_call 34; exact Gr.call _ (Nat.le_refl _) (HFT.out _ (Gr.is _)))) | quiet_step ((go_at_call 34; exact Gr.call _ (Nat.le_refl _) (HFT.out _ (Gr.is _)))))
  refine wpQuiet_nil ?_
  rintro w3 ⟨⟨_, hb3⟩, rfl⟩
  clear y0 y1 y2 y3 y4 y5 y6 y7 y8 y9 y10 y11 y12 y13
  clear z0 z1 z2 z3 z4 z5 z6 z7 z8 z9 z10 z11 z12 z13
  clear a0 a1 a2 a3
  have HB3 := Lib.hid (stepB HB2.out hb3)
  go_wp2_with fail
  go_ret
  exact ⟨rfl, HB3.out⟩
set_option maxRecDepth 100000 in
set_option maxHeartbeats 4000000 in
theorem answers_ok (h : AnsIn w D A n c l i m base b A' c' bm ps f last begun) {p k : Nat} {q : Ms} (hf : f m.sq = some p) (hp : ps[p]? = some (k, -1)) (hq : l[k]? = some q) (h0 : fitsC q m = 0) :
    Calls Try.prog 39 #[.pointer (some ⟨b, 0, none⟩), .slice A n c, .int .i64 (i : Int)] w fun e w' => e = .returned (.int .i64 0) ∧ LogIn w' base b A' c' bm (ps.set p (k, (i : Int))) (fdel f m.sq) last begun ∧ Below base w w' := by
  have HF0 := Lib.hid hf
  have HPK := Lib.hid hp
  have HQ := Lib.hid hq
  have H00 := Lib.hid h0
  clear hf hp hq h0
  have hb0 := below1 w (.cells #[.slice A n c] 47)
  have HB := Lib.hid hb0
  have HK := Lib.hid (blk11 w 47 #[.slice A n c])
  have HI := Lib.hid (h.below hb0)
  have HZ := Lib.hid h.log.size
  clear hb0 h
  go_enter Try.func39, Try.ntmps39
  go_upto_region 1 with (fail)
  generalize World.alloc w _ = w0 at *
  have k0 := (show Blk w0 w.heap.size 47 _ from HK.out).cell 0
  have hz0 : w.heap.size < w0.heap.size := (show Blk w0 w.heap.size 47 _ from HK.out).lt
  have hlt := HI.out.lt
  have hkI : (0 : Int) ≤ (i : Int) := by omega
  have hkI2 : (i : Int) < (n : Int) := by omega
  have HIC := Lib.hid HI.out
  obtain ⟨bo, off, m', hd, hA, hD, hm, hin, hc⟩ := ms_at HI.out.sl HI.out.dom' HI.out.lt
  rw [HI.out.at_] at hm
  injection hm with hm
  subst hm
  have hbo : bo < base := HI.out.dom _ hD
  subst hA
  have HIN := Lib.hid hin
  have e0 : w0.cell? ⟨bo, off + i * 14, none⟩ = some (.int .i64 m.kd) := hc 0 _ rfl
  have e1 : w0.cell? ⟨bo, off + i * 14 + 1, none⟩ = some (.int .u64 (m.ep : Int)) := hc 1 _ rfl
  have e2 : w0.cell? ⟨bo, off + i * 14 + 2, none⟩ = some (.int .u64 (m.sq : Int)) := hc 2 _ rfl
  have e3 : w0.cell? ⟨bo, off + i * 14 + 3, none⟩ = some (.int .u64 (m.ps : Int)) := hc 3 _ rfl
  have e4 : w0.cell? ⟨bo, off + i * 14 + 4, none⟩ = some (.int .i64 m.ct) := hc 4 _ rfl
  have e5 : w0.cell? ⟨bo, off + i * 14 + 5, none⟩ = some (.int .i64 m.st) := hc 5 _ rfl
  have e6 : w0.cell? ⟨bo, off + i * 14 + 6, none⟩ = some (.slice hd.A1 hd.n1 hd.c1) := hc 6 _ rfl
  have e7 : w0.cell? ⟨bo, off + i * 14 + 7, none⟩ = some (.slice hd.A2 hd.n2 hd.c2) := hc 7 _ rfl
  have e8 : w0.cell? ⟨bo, off + i * 14 + 8, none⟩ = some (.slice hd.A3 hd.n3 hd.c3) := hc 8 _ rfl
  have e9 : w0.cell? ⟨bo, off + i * 14 + 9, none⟩ = some (.int .u64 (m.se.1 : Int)) := hc 9 _ rfl
  have e10 : w0.cell? ⟨bo, off + i * 14 + 10, none⟩ = some (.int .u64 (m.se.2.1 : Int)) := hc 10 _ rfl
  have e11 : w0.cell? ⟨bo, off + i * 14 + 11, none⟩ = some (.int .u64 (m.se.2.2 : Int)) := hc 11 _ rfl
  have e12 : w0.cell? ⟨bo, off + i * 14 + 12, none⟩ = some (.int .u64 (m.pr.1 : Int)) := hc 12 _ rfl
  have e13 : w0.cell? ⟨bo, off + i * 14 + 13, none⟩ = some (.slice hd.A4 hd.n4 hd.c4) := hc 13 _ rfl
  have hba := below1 w0 (.cells (msV m hd) 40)
  have HB1 := Lib.hid (stepB HB.out hba)
  have HK1 := Lib.hid (blk11 w0 40 (msV m hd))
  have HI1 := Lib.hid (HI.out.below hba)
  have HIN1 := Lib.hid (hin.below hba)
  have HBX : Hid (Blk (w0.alloc (.cells (msV m hd) 40)) w.heap.size 47 #[.slice (some ⟨bo, off, none⟩) n c]) := Lib.hid (keepB (show Blk w0 w.heap.size 47 _ from HK.out) hba)
  clear hin hc hba hD
  go_upto_region 2 with (fail)
  clear e0 e1 e2 e3 e4 e5 e6 e7 e8 e9 e10 e11 e12 e13
  generalize World.alloc w0 _ = w1 at *
  clear k0
  have HL := HI1.out.log
  have hlk := HL.map.look HIN1.out.sq1
  obtain ⟨cv, hcv, hlook⟩ := hlk
  have HCV := Lib.hid hcv
  obtain ⟨fo, hfo⟩ : ∃ q, (f m.sq).isSome = q := ⟨_, rfl⟩
  rw [hfo] at hlook
  have HFO := Lib.hid hfo
  have HLOG := Lib.hid HL
  have hle := fun u : Gr w1.heap.size w1 => hlook u.val (u.is.block bm HL.map.lt)
  have g1 : ∀ x : Gr w1.heap.size w1, x.val.cell? ⟨b, 1, none⟩ = some (.map (some bm)) := fun x => (x.is.cell (p := ⟨b, 1, none⟩) HL.blk.lt).trans ((show Blk w1 b 89 (logV A' ps.length c' bm last begun) from HLOG.out.blk).cell 1)
  have r2 : ∀ x : Gr w1.heap.size w1, x.val.cell? ⟨w0.heap.size, 2, none⟩ = some (.int .u64 (m.sq : Int)) := fun x => (x.is.cell (p := ⟨w0.heap.size, 2, none⟩) (show Blk w1 w0.heap.size 40 (msV m hd) from HK1.out).lt).trans ((show Blk w1 w0.heap.size 40 (msV m hd) from HK1.out).cell 2)
  clear hcv hfo hlook HL
  refine wp_region_grow (by kernel_rfl) (by kernel_rfl) w1.heap.size ?_
  repeat (first | go_big_quiet_step (fail) | quiet_step (fail))
  refine wpQuiet_nil ?_
  rintro w2 ⟨⟨_, hb2⟩, rfl⟩
  have HB2 := Lib.hid (stepB HB1.out hb2)
  have HI2 := Lib.hid (HI1.out.below hb2)
  have HIN2 := Lib.hid (HIN1.out.below hb2)
  have HK2 : Hid (Blk w2 w0.heap.size 40 (msV m hd)) := Lib.hid (keepB (show Blk w1 w0.heap.size 40 (msV m hd) from HK1.out) hb2)
  have HX2 : Hid (Blk w2 w.heap.size 47 #[.slice (some ⟨bo, off, none⟩) n c]) := Lib.hid (keepB (show Blk w1 w.heap.size 47 #[.slice (some ⟨bo, off, none⟩) n c] from HBX.out) hb2)
  clear hb2 hle g1 r2
  obtain rfl : fo = true := by rw [← HFO.out, HF0.out]; rfl
  obtain rfl : cv = (p : Int) := HCV.out p HF0.out
  have hpl : p < ps.length := (List.getElem?_eq_some_iff.1 HPK.out).1
  have hpI : (0 : Int) ≤ (p : Int) := by omega
  have hpI2 : (p : Int) < (ps.length : Int) := by omega
  obtain ⟨g, hg, hgl, gk0, gk1⟩ := (prIn_own HI2.out.log.own).2 p (k, -1) HPK.out
  have hkn : k < n := HI2.out.ps0 _ (List.mem_of_getElem? HPK.out)
  have hnI : (0 : Int) ≤ (k : Int) := by omega
  have hnI2 : (k : Int) < (n : Int) := by omega
  obtain ⟨bo2, off2, q', hdq, hA2, hD2, hm2, hin2, hc2⟩ := ms_at HI2.out.sl HI2.out.dom' hkn
  injection hA2 with hA2
  injection hA2 with e1 e2
  subst e1; subst e2
  rw [HQ.out] at hm2
  injection hm2 with hm2
  subst hm2
  have hbo2 : bo < w2.heap.size := HI2.out.dom' _ hD2
  have HFT := Lib.hid (fun u (hu : Below w2.heap.size w2 u) => kfits_any (hin2.below hu) (HIN2.out.below hu))
  subst hg
  clear hD2
  have a0 : ∀ x : Gr w2.heap.size w2, x.val.cell? ⟨w.heap.size, 0, none⟩ = some (.slice (some ⟨bo, off, none⟩) n c) := fun x => (x.is.cell (p := ⟨w.heap.size, 0, none⟩) (show Blk w2 w.heap.size 47 #[.slice (some ⟨bo, off, none⟩) n c] from HX2.out).lt).trans ((show Blk w2 w.heap.size 47 #[.slice (some ⟨bo, off, none⟩) n c] from HX2.out).cell 0)
  have a1 : ∀ x : Gr w2.heap.size w2, x.val.cell? ⟨b, 0, none⟩ = some (.slice (some ⟨g, 0, none⟩) ps.length c') := fun x => (x.is.cell (p := ⟨b, 0, none⟩) HI2.out.log.blk.lt).trans ((show Blk w2 b 89 (logV (some ⟨g, 0, none⟩) ps.length c' bm last begun) from HI2.out.log.blk).cell 0)
  have a2 : ∀ x : Gr w2.heap.size w2, x.val.cell? ⟨g, 0 + p * 2, none⟩ = some (.int .i64 (k : Int)) := fun x => by rw [Nat.zero_add]; exact (x.is.cell (p := ⟨g, p * 2, none⟩) hgl).trans gk0
  have a3 : ∀ x : Gr w2.heap.size w2, x.val.cell? ⟨g, p * 2, none⟩ = some (.int .i64 (k : Int)) := fun x => (x.is.cell (p := ⟨g, p * 2, none⟩) hgl).trans gk0
  have y0 : ∀ x : Gr w2.heap.size w2, x.val.cell? ⟨bo, off + k * 14, none⟩ = some (.int .i64 q.kd) := fun x => (x.is.cell (p := ⟨bo, off + k * 14, none⟩) hbo2).trans (hc2 0 _ rfl)
  have y1 : ∀ x : Gr w2.heap.size w2, x.val.cell? ⟨bo, off + k * 14 + 1, none⟩ = some (.int .u64 (q.ep : Int)) := fun x => (x.is.cell (p := ⟨bo, off + k * 14 + 1, none⟩) hbo2).trans (hc2 1 _ rfl)
  have y2 : ∀ x : Gr w2.heap.size w2, x.val.cell? ⟨bo, off + k * 14 + 2, none⟩ = some (.int .u64 (q.sq : Int)) := fun x => (x.is.cell (p := ⟨bo, off + k * 14 + 2, none⟩) hbo2).trans (hc2 2 _ rfl)
  have y3 : ∀ x : Gr w2.heap.size w2, x.val.cell? ⟨bo, off + k * 14 + 3, none⟩ = some (.int .u64 (q.ps : Int)) := fun x => (x.is.cell (p := ⟨bo, off + k * 14 + 3, none⟩) hbo2).trans (hc2 3 _ rfl)
  have y4 : ∀ x : Gr w2.heap.size w2, x.val.cell? ⟨bo, off + k * 14 + 4, none⟩ = some (.int .i64 q.ct) := fun x => (x.is.cell (p := ⟨bo, off + k * 14 + 4, none⟩) hbo2).trans (hc2 4 _ rfl)
  have y5 : ∀ x : Gr w2.heap.size w2, x.val.cell? ⟨bo, off + k * 14 + 5, none⟩ = some (.int .i64 q.st) := fun x => (x.is.cell (p := ⟨bo, off + k * 14 + 5, none⟩) hbo2).trans (hc2 5 _ rfl)
  have y6 : ∀ x : Gr w2.heap.size w2, x.val.cell? ⟨bo, off + k * 14 + 6, none⟩ = some (.slice hdq.A1 hdq.n1 hdq.c1) := fun x => (x.is.cell (p := ⟨bo, off + k * 14 + 6, none⟩) hbo2).trans (hc2 6 _ rfl)
  have y7 : ∀ x : Gr w2.heap.size w2, x.val.cell? ⟨bo, off + k * 14 + 7, none⟩ = some (.slice hdq.A2 hdq.n2 hdq.c2) := fun x => (x.is.cell (p := ⟨bo, off + k * 14 + 7, none⟩) hbo2).trans (hc2 7 _ rfl)
  have y8 : ∀ x : Gr w2.heap.size w2, x.val.cell? ⟨bo, off + k * 14 + 8, none⟩ = some (.slice hdq.A3 hdq.n3 hdq.c3) := fun x => (x.is.cell (p := ⟨bo, off + k * 14 + 8, none⟩) hbo2).trans (hc2 8 _ rfl)
  have y9 : ∀ x : Gr w2.heap.size w2, x.val.cell? ⟨bo, off + k * 14 + 9, none⟩ = some (.int .u64 (q.se.1 : Int)) := fun x => (x.is.cell (p := ⟨bo, off + k * 14 + 9, none⟩) hbo2).trans (hc2 9 _ rfl)
  have y10 : ∀ x : Gr w2.heap.size w2, x.val.cell? ⟨bo, off + k * 14 + 10, none⟩ = some (.int .u64 (q.se.2.1 : Int)) := fun x => (x.is.cell (p := ⟨bo, off + k * 14 + 10, none⟩) hbo2).trans (hc2 10 _ rfl)
  have y11 : ∀ x : Gr w2.heap.size w2, x.val.cell? ⟨bo, off + k * 14 + 11, none⟩ = some (.int .u64 (q.se.2.2 : Int)) := fun x => (x.is.cell (p := ⟨bo, off + k * 14 + 11, none⟩) hbo2).trans (hc2 11 _ rfl)
  have y12 : ∀ x : Gr w2.heap.size w2, x.val.cell? ⟨bo, off + k * 14 + 12, none⟩ = some (.int .u64 (q.pr.1 : Int)) := fun x => (x.is.cell (p := ⟨bo, off + k * 14 + 12, none⟩) hbo2).trans (hc2 12 _ rfl)
  have y13 : ∀ x : Gr w2.heap.size w2, x.val.cell? ⟨bo, off + k * 14 + 13, none⟩ = some (.slice hdq.A4 hdq.n4 hdq.c4) := fun x => (x.is.cell (p := ⟨bo, off + k * 14 + 13, none⟩) hbo2).trans (hc2 13 _ rfl)
  have z0 : ∀ x : Gr w2.heap.size w2, x.val.cell? ⟨w0.heap.size, 0, none⟩ = some (.int .i64 m.kd) := fun x => (x.is.cell (p := ⟨w0.heap.size, 0, none⟩) (show Blk w2 (w0.heap.size) 40 (msV m hd) from HK2.out).lt).trans ((show Blk w2 (w0.heap.size) 40 (msV m hd) from HK2.out).cell 0)
  have z1 : ∀ x : Gr w2.heap.size w2, x.val.cell? ⟨w0.heap.size, 1, none⟩ = some (.int .u64 (m.ep : Int)) := fun x => (x.is.cell (p := ⟨w0.heap.size, 1, none⟩) (show Blk w2 (w0.heap.size) 40 (msV m hd) from HK2.out).lt).trans ((show Blk w2 (w0.heap.size) 40 (msV m hd) from HK2.out).cell 1)
  have z2 : ∀ x : Gr w2.heap.size w2, x.val.cell? ⟨w0.heap.size, 2, none⟩ = some (.int .u64 (m.sq : Int)) := fun x => (x.is.cell (p := ⟨w0.heap.size, 2, none⟩) (show Blk w2 (w0.heap.size) 40 (msV m hd) from HK2.out).lt).trans ((show Blk w2 (w0.heap.size) 40 (msV m hd) from HK2.out).cell 2)
  have z3 : ∀ x : Gr w2.heap.size w2, x.val.cell? ⟨w0.heap.size, 3, none⟩ = some (.int .u64 (m.ps : Int)) := fun x => (x.is.cell (p := ⟨w0.heap.size, 3, none⟩) (show Blk w2 (w0.heap.size) 40 (msV m hd) from HK2.out).lt).trans ((show Blk w2 (w0.heap.size) 40 (msV m hd) from HK2.out).cell 3)
  have z4 : ∀ x : Gr w2.heap.size w2, x.val.cell? ⟨w0.heap.size, 4, none⟩ = some (.int .i64 m.ct) := fun x => (x.is.cell (p := ⟨w0.heap.size, 4, none⟩) (show Blk w2 (w0.heap.size) 40 (msV m hd) from HK2.out).lt).trans ((show Blk w2 (w0.heap.size) 40 (msV m hd) from HK2.out).cell 4)
  have z5 : ∀ x : Gr w2.heap.size w2, x.val.cell? ⟨w0.heap.size, 5, none⟩ = some (.int .i64 m.st) := fun x => (x.is.cell (p := ⟨w0.heap.size, 5, none⟩) (show Blk w2 (w0.heap.size) 40 (msV m hd) from HK2.out).lt).trans ((show Blk w2 (w0.heap.size) 40 (msV m hd) from HK2.out).cell 5)
  have z6 : ∀ x : Gr w2.heap.size w2, x.val.cell? ⟨w0.heap.size, 6, none⟩ = some (.slice hd.A1 hd.n1 hd.c1) := fun x => (x.is.cell (p := ⟨w0.heap.size, 6, none⟩) (show Blk w2 (w0.heap.size) 40 (msV m hd) from HK2.out).lt).trans ((show Blk w2 (w0.heap.size) 40 (msV m hd) from HK2.out).cell 6)
  have z7 : ∀ x : Gr w2.heap.size w2, x.val.cell? ⟨w0.heap.size, 7, none⟩ = some (.slice hd.A2 hd.n2 hd.c2) := fun x => (x.is.cell (p := ⟨w0.heap.size, 7, none⟩) (show Blk w2 (w0.heap.size) 40 (msV m hd) from HK2.out).lt).trans ((show Blk w2 (w0.heap.size) 40 (msV m hd) from HK2.out).cell 7)
  have z8 : ∀ x : Gr w2.heap.size w2, x.val.cell? ⟨w0.heap.size, 8, none⟩ = some (.slice hd.A3 hd.n3 hd.c3) := fun x => (x.is.cell (p := ⟨w0.heap.size, 8, none⟩) (show Blk w2 (w0.heap.size) 40 (msV m hd) from HK2.out).lt).trans ((show Blk w2 (w0.heap.size) 40 (msV m hd) from HK2.out).cell 8)
  have z9 : ∀ x : Gr w2.heap.size w2, x.val.cell? ⟨w0.heap.size, 9, none⟩ = some (.int .u64 (m.se.1 : Int)) := fun x => (x.is.cell (p := ⟨w0.heap.size, 9, none⟩) (show Blk w2 (w0.heap.size) 40 (msV m hd) from HK2.out).lt).trans ((show Blk w2 (w0.heap.size) 40 (msV m hd) from HK2.out).cell 9)
  have z10 : ∀ x : Gr w2.heap.size w2, x.val.cell? ⟨w0.heap.size, 10, none⟩ = some (.int .u64 (m.se.2.1 : Int)) := fun x => (x.is.cell (p := ⟨w0.heap.size, 10, none⟩) (show Blk w2 (w0.heap.size) 40 (msV m hd) from HK2.out).lt).trans ((show Blk w2 (w0.heap.size) 40 (msV m hd) from HK2.out).cell 10)
  have z11 : ∀ x : Gr w2.heap.size w2, x.val.cell? ⟨w0.heap.size, 11, none⟩ = some (.int .u64 (m.se.2.2 : Int)) := fun x => (x.is.cell (p := ⟨w0.heap.size, 11, none⟩) (show Blk w2 (w0.heap.size) 40 (msV m hd) from HK2.out).lt).trans ((show Blk w2 (w0.heap.size) 40 (msV m hd) from HK2.out).cell 11)
  have z12 : ∀ x : Gr w2.heap.size w2, x.val.cell? ⟨w0.heap.size, 12, none⟩ = some (.int .u64 (m.pr.1 : Int)) := fun x => (x.is.cell (p := ⟨w0.heap.size, 12, none⟩) (show Blk w2 (w0.heap.size) 40 (msV m hd) from HK2.out).lt).trans ((show Blk w2 (w0.heap.size) 40 (msV m hd) from HK2.out).cell 12)
  have z13 : ∀ x : Gr w2.heap.size w2, x.val.cell? ⟨w0.heap.size, 13, none⟩ = some (.slice hd.A4 hd.n4 hd.c4) := fun x => (x.is.cell (p := ⟨w0.heap.size, 13, none⟩) (show Blk w2 (w0.heap.size) 40 (msV m hd) from HK2.out).lt).trans ((show Blk w2 (w0.heap.size) 40 (msV m hd) from HK2.out).cell 13)
  clear hc2 gk0 gk1 hin2
  go_upto_region 8 with (fail)
  refine wp_region_grow (by kernel_rfl) (by kernel_rfl) w2.heap.size ?_
  repeat (first | go_big_quiet_step ((go_at_call 34; exact Gr.call _ (Nat.le_refl _) (HFT.out _ (Gr.is _)))) | quiet_step ((go_at_call 34; exact Gr.call _ (Nat.le_refl _) (HFT.out _ (Gr.is _)))))
  refine wpQuiet_nil ?_
  rintro w3 ⟨⟨_, hb3⟩, rfl⟩
  clear y0 y1 y2 y3 y4 y5 y6 y7 y8 y9 y10 y11 y12 y13
  clear z0 z1 z2 z3 z4 z5 z6 z7 z8 z9 z10 z11 z12 z13
  clear a0 a1 a2 a3
  have HB3 := Lib.hid (stepB HB2.out hb3)
  have HI3 := Lib.hid (HI2.out.below hb3)
  have HK3 : Hid (Blk w3 w0.heap.size 40 (msV m hd)) := Lib.hid (keepB (show Blk w2 w0.heap.size 40 (msV m hd) from HK2.out) hb3)
  have hgl3 : g < w3.heap.size := Nat.lt_of_lt_of_le hgl hb3.size
  have HFT0 := Lib.hid H00.out
  clear hb3 HFT
  have g0 : w3.cell? ⟨b, 0, none⟩ = some (.slice (some ⟨g, 0, none⟩) ps.length c') := (show Blk w3 b 89 (logV (some ⟨g, 0, none⟩) ps.length c' bm last begun) from HI3.out.log.blk).cell 0
  obtain ⟨gg, cur, hg1, hg2, hg3, hg4, hg5⟩ := row_cell HI3.out.log.own (show (ps.flatMap pr2)[p * 2 + 1]? = some (.int .i64 (-1)) from by rw [flat2_get ps p 1 (by omega), HPK.out]; rfl)
  injection hg1 with hg1
  injection hg1 with hg1
  subst hg1
  have HG3 := Lib.hid hg3
  have hgb : base ≤ g := hg2
  have z4 : w3.cell? ⟨g, 0 + p * 2 + 1, none⟩ = some (.int .i64 (-1)) := by rw [Nat.zero_add]; exact hg4
  have z5 : w3.frozen? ⟨g, 0 + p * 2 + 1, none⟩ = false := by rw [Nat.zero_add]; exact hg3.frozen _
  have z6 : w3.frozen? ⟨g, p * 2 + 1, none⟩ = false := hg3.frozen _
  rw [H00.out]
  have hbg : b ≠ g := blk_ne HI3.out.log.blk hg3 (by decide)
  have hmg : bm ≠ g := fun e => map_ne hg3 HI3.out.log.map e.symm
  have hag : w0.heap.size ≠ g := blk_ne (show Blk w3 w0.heap.size 40 (msV m hd) from HK3.out) hg3 (by decide)
  have hb0 := HI3.out.log.b0
  have hbm0 := HI3.out.log.bm0
  have HHG := Lib.hid (And.intro hbg (And.intro hmg hag))
  clear hg3 hg5 hg2 hbg hmg hag
  go_upto_region 12 with (fail)
  have HL4 : Hid (Blk (w3.setCell ⟨g, p * 2 + 1, none⟩ (.int .i64 (i : Int))) b 89 (logV (some ⟨g, 0, none⟩) ps.length c' bm last begun)) := Lib.hid ((show Blk w3 b 89 (logV (some ⟨g, 0, none⟩) ps.length c' bm last begun) from HI3.out.log.blk).far (p := ⟨g, p * 2 + 1, none⟩) HHG.out.1 _)
  have HK4 : Hid (Blk (w3.setCell ⟨g, p * 2 + 1, none⟩ (.int .i64 (i : Int))) w0.heap.size 40 (msV m hd)) := Lib.hid ((show Blk w3 w0.heap.size 40 (msV m hd) from HK3.out).far (p := ⟨g, p * 2 + 1, none⟩) HHG.out.2.2 _)
  have HM4 := Lib.hid (HI3.out.log.map.same (Below.heap_setCell w3 ⟨g, p * 2 + 1, none⟩ (.int .i64 (i : Int)) bm HHG.out.2.1))
  have HO4 : Hid ((w3.setCell ⟨g, p * 2 + 1, none⟩ (.int .i64 (i : Int))).ownsRow base 92 2 (.slice (some ⟨g, 0, none⟩) ps.length c') ps.length ((ps.set p (k, (i : Int))).flatMap pr2)) := by
    show World.ownsRow _ _ _ _ _ _ _
    rw [← flat2_set ps p k (-1) i HPK.out]
    exact row_put HI3.out.log.own _ _
  have HB4 := Lib.hid ((HB3.out.mono HZ.out).setCell (p := ⟨g, p * 2 + 1, none⟩) hgb (.int .i64 (i : Int)))
  generalize World.setCell w3 _ _ = w4 at *
  clear g0 z4 z5 z6 hg4
  have g1 : w4.cell? ⟨b, 1, none⟩ = some (.map (some bm)) := (show Blk w4 b 89 (logV (some ⟨g, 0, none⟩) ps.length c' bm last begun) from HL4.out).cell 1
  have k2 : w4.cell? ⟨w0.heap.size, 2, none⟩ = some (.int .u64 (m.sq : Int)) := (show Blk w4 w0.heap.size 40 (msV m hd) from HK4.out).cell 2
  go_still_tail 6, (by kernel_rfl)
  change wpList _ _ _ _ _ w4.drew
  have hdr : Below w4.heap.size w4 w4.drew := (Below.refl _ _).drew
  have hmd := HM4.out.below hdr HM4.out.lt
  have HL5 : Hid (Blk w4.drew b 89 (logV (some ⟨g, 0, none⟩) ps.length c' bm last begun)) := Lib.hid (keepB (show Blk w4 b 89 (logV (some ⟨g, 0, none⟩) ps.length c' bm last begun) from HL4.out) hdr)
  have HO5 : Hid (w4.drew.ownsRow base 92 2 (.slice (some ⟨g, 0, none⟩) ps.length c') ps.length ((ps.set p (k, (i : Int))).flatMap pr2)) := Lib.hid (keepO HO4.out hdr)
  have HM5 := Lib.hid hmd
  have HB5 : Hid (Below base w w4.drew) := ⟨HB4.out.os, HB4.out.tape, HB4.out.output, HB4.out.size, HB4.out.block⟩
  clear hmd hdr g1 k2
  refine wpList_map_del rfl (.tmp 62) (.tmp 64) rfl HM5.out HIN2.out.sq1 rfl rfl ?_
  intro w6 hm6 hg6
  have HM6 := Lib.hid hm6
  have HL6 : Hid (Blk w6 b 89 (logV (some ⟨g, 0, none⟩) ps.length c' bm last begun)) := Lib.hid ((show Blk w4.drew b 89 (logV (some ⟨g, 0, none⟩) ps.length c' bm last begun) from HL5.out).grown hg6 (fun e => by injection e with e; exact map_ne HL5.out HM5.out e))
  have HO6 := Lib.hid (HO5.out.kept hg6 (.inr (fun e => map_ne_row HM5.out HO5.out e.symm)))
  have HB6 : Hid (Below base w w6) := Lib.hid (HB5.out.grown hg6 (Nat.le_trans HZ.out HB5.out.size) (fun q hq => by injection hq with hq; omega))
  have H64 := Lib.hid HI3.out.log.l64
  clear hm6 hg6
  go_wp2_with fail
  go_ret
  refine ⟨rfl, ⟨hb0, hbm0, ?_, ?_, ?_, H64.out⟩, HB6.out⟩
  · rw [List.length_set]; exact HL6.out
  · rw [List.length_set]; exact HO6.out
  · rw [List.length_set]; exact HM6.out
end
end Go.Proofs.Ytnihaaifkogpbaa
/- A talk is gone through: talk.goes. -/
namespace Go.Proofs.Ytnihaaifkogpbaa
open Go.ChangeShapes Go.WideShapes Go.ChangeAt Go.RowKit
set_option linter.unusedVariables false
theorem askIn_iff {l : List Ms} {ps : List Pr2} {s : Nat} : AskIn l ps s ps.length ↔ ∃ (p k : Nat) (a : Int) (q : Ms), ps[p]? = some (k, a) ∧ l[k]? = some q ∧ q.sq = s := by
  constructor
  · rintro ⟨p, ⟨k, a⟩, h1, h2, h3⟩
    unfold eqSq at h3
    cases hq : l[k]? with
    | none => rw [hq] at h3; cases h3
    | some q => rw [hq] at h3; exact ⟨p, k, a, q, h2, hq, by simpa using h3⟩
  · rintro ⟨p, k, a, q, h1, h2, h3⟩
    exact ⟨p, (k, a), (List.getElem?_eq_some_iff.1 h1).1, h1, by unfold eqSq; rw [h2]; simpa using h3⟩
/-- The log behind the first i messages, if they are good. -/
def LogOf (w : World) (base : Nat) (l : List Ms) (i b : Nat) : Prop :=
  ∃ A c bm ps f last begun, LogIn w base b A c bm ps f last begun ∧ LogIs l i ps f last begun
theorem rows_zero (w : World) (base : Nat) (e : TypeId) (size : Nat) : w.ownsRow base e size (.slice none 0 0) 0 [] := World.ownsRow_nil _ _ _ _
section
variable {w : World} {D : Dom} {A : Option Addr} {n c : Nat} {l : List Ms}
/-- What talk.goes tells. -/
def GoesIs (w : World) (l : List Ms) (e : Ending) (w' : World) : Prop :=
  Below w.heap.size w w' ∧ ((∃ b, e = .returned (.tuple #[.pointer (some ⟨b, 0, none⟩), .int .i64 (l.length : Int), .int .i64 0]) ∧ Good l l.length ∧ LogOf w' w.heap.size l l.length b) ∨
    ∃ (i : Nat) (k : Int), e = .returned (.tuple #[.pointer none, .int .i64 (i : Int), .int .i64 k]) ∧ k ≠ 0 ∧ res l = (i, k))
set_option maxRecDepth 100000 in
set_option maxHeartbeats 4000000 in
theorem goes_any (hs : rpMs.sl w D A n c l) (hD : ∀ k, D k → k < w.heap.size) (hn : n ≤ 1000) :
    Calls Try.prog 23 #[.slice A n c] w (GoesIs w l) := by
  have HN := Lib.hid (Rp.sl_len hs).1
  have HS := Lib.hid (show Sl rpMs w D A n c l from ⟨hs, hD⟩)
  have HDM := Lib.hid hD
  clear hs hD
  have hmm := @run_makeMap Try.prog
  have hb0 : Below w.heap.size w ((w.alloc (.map #[] 0)).alloc (.cells (logV none 0 0 w.heap.size 0 false) 89)) := below2 w _ _
  have hl0 : LogIn ((w.alloc (.map #[] 0)).alloc (.cells (logV none 0 0 w.heap.size 0 false) 89)) w.heap.size (w.heap.size + 1) none 0 w.heap.size [] (fun _ => none) 0 false := by
    have hb := Blk.new (w.alloc (.map #[] 0)) 89 (logV none 0 0 w.heap.size 0 false)
    have e : (w.alloc (.map #[] 0)).heap.size = w.heap.size + 1 := by simp
    rw [e] at hb
    exact ⟨by omega, Nat.le_refl _, hb, rows_zero _ _ _ _, (mapOf_made w).below (below1 _ _) (by simp), by omega⟩
  have HB0 := Lib.hid hb0
  have HL0 := Lib.hid hl0
  clear hb0 hl0
  go_enter Try.func23, Try.ntmps23
  go_upto_region 2 with (fail)
  generalize World.alloc (World.alloc w _) _ = w0 at *
  clear hmm
  go_wp2_with fail
  go_loopw [14] (fun v14 wr => ∃ (i : Nat) (A' : Option Addr) (c' bm : Nat) (ps : List Pr2) (f : Nat → Option Nat) (last : Nat) (begun : Bool), i ≤ n ∧ v14 = .int .i64 (i : Int) ∧ Hid (LogIn wr w.heap.size (w.heap.size + 1) A' c' bm ps f last begun) ∧ Hid (LogIs l i ps f last begun) ∧ Hid (Good l i) ∧ Hid (Below w.heap.size w wr)) (fun v14 _ => n - (intOf v14).toNat)
  case atStart => exact ⟨0, none, 0, w.heap.size, [], (fun _ => none), 0, false, by omega, rfl, HL0, log_zero l, good_zero l, HB0⟩
  case round =>
    clear HL0 HB0
    obtain ⟨i, A', c', bm, ps, f, last, begun, hi, rfl, HLI, HIS, HG, hbel⟩ := hrel
    have hzr := hbel.out.size
    by_cases hin : i < n
    case neg =>
      obtain rfl : i = n := by omega
      have hd : decide ((i : Int) < (i : Int)) = false := by simp
      go_wp2_with fail
      go_ret3
      have hln := HN.out
      refine ⟨hbel.out, .inl ⟨w.heap.size + 1, by rw [hln]; rfl, by rw [hln]; exact HG.out, ⟨A', c', bm, ps, f, last, begun, HLI.out, by rw [hln]; exact HIS.out⟩⟩⟩
    case pos =>
      have hd : decide ((i : Int) < (n : Int)) = true := by simp; omega
      have hkI : (0 : Int) ≤ (i : Int) := by omega
      have hkI2 : (i : Int) < (n : Int) := by omega
      have hsr := keepS HS.out hbel.out
      obtain ⟨bo, off, m, hd', hA, hDb, hm, hmi, hc⟩ := ms_at hsr.1 hsr.2 hin
      subst hA
      have HM := Lib.hid hm
      have HR : Hid (rpMs.sl wr D (some ⟨bo, off, none⟩) n c l) := hsr.1
      have e0 : wr.cell? ⟨bo, off + i * 14, none⟩ = some (.int .i64 m.kd) := hc 0 _ rfl
      have e1 : wr.cell? ⟨bo, off + i * 14 + 1, none⟩ = some (.int .u64 (m.ep : Int)) := hc 1 _ rfl
      have e2 : wr.cell? ⟨bo, off + i * 14 + 2, none⟩ = some (.int .u64 (m.sq : Int)) := hc 2 _ rfl
      have e3 : wr.cell? ⟨bo, off + i * 14 + 3, none⟩ = some (.int .u64 (m.ps : Int)) := hc 3 _ rfl
      have e4 : wr.cell? ⟨bo, off + i * 14 + 4, none⟩ = some (.int .i64 m.ct) := hc 4 _ rfl
      have e5 : wr.cell? ⟨bo, off + i * 14 + 5, none⟩ = some (.int .i64 m.st) := hc 5 _ rfl
      have e6 : wr.cell? ⟨bo, off + i * 14 + 6, none⟩ = some (.slice hd'.A1 hd'.n1 hd'.c1) := hc 6 _ rfl
      have e7 : wr.cell? ⟨bo, off + i * 14 + 7, none⟩ = some (.slice hd'.A2 hd'.n2 hd'.c2) := hc 7 _ rfl
      have e8 : wr.cell? ⟨bo, off + i * 14 + 8, none⟩ = some (.slice hd'.A3 hd'.n3 hd'.c3) := hc 8 _ rfl
      have e9 : wr.cell? ⟨bo, off + i * 14 + 9, none⟩ = some (.int .u64 (m.se.1 : Int)) := hc 9 _ rfl
      have e10 : wr.cell? ⟨bo, off + i * 14 + 10, none⟩ = some (.int .u64 (m.se.2.1 : Int)) := hc 10 _ rfl
      have e11 : wr.cell? ⟨bo, off + i * 14 + 11, none⟩ = some (.int .u64 (m.se.2.2 : Int)) := hc 11 _ rfl
      have e12 : wr.cell? ⟨bo, off + i * 14 + 12, none⟩ = some (.int .u64 (m.pr.1 : Int)) := hc 12 _ rfl
      have e13 : wr.cell? ⟨bo, off + i * 14 + 13, none⟩ = some (.slice hd'.A4 hd'.n4 hd'.c4) := hc 13 _ rfl
      have hba := below1 wr (.cells (msV m hd') 40)
      have HB1 := Lib.hid (stepB hbel.out hba)
      have HK1 := Lib.hid (blk11 wr 40 (msV m hd'))
      have HL1 := Lib.hid (HLI.out.below hba)
      have HI1 := Lib.hid (hmi.below hba)
      have HR1 := Lib.hid (Rp.sl_below HR.out hba hsr.2)
      have HAT : Hid (atC l i = atM l i m) := atC_at hm
      have HIL : Hid (i < l.length) := by show _ < _; rw [HN.out]; exact hin
      have HPS := Lib.hid HIS.out.len
      have HPL : Hid (∀ x ∈ ps, x.1 < n) := fun x hx => by
        obtain ⟨p, hp⟩ := List.getElem?_of_mem hx
        have := (HIS.out.ps_lt (p := p) (k := x.1) (a := x.2) hp).1
        omega
      clear hc hba hm hmi hsr hDb
      go_upto_region 7 with (fail)
      clear e0 e1 e2 e3 e4 e5 e6 e7 e8 e9 e10 e11 e12 e13
      generalize World.alloc wr _ = w1 at *
      have z0 : w1.cell? ⟨wr.heap.size, 0, none⟩ = some (.int .i64 m.kd) := (show Blk w1 (wr.heap.size) 40 (msV m hd') from HK1.out).cell 0
      have z1 : w1.cell? ⟨wr.heap.size, 1, none⟩ = some (.int .u64 (m.ep : Int)) := (show Blk w1 (wr.heap.size) 40 (msV m hd') from HK1.out).cell 1
      have z2 : w1.cell? ⟨wr.heap.size, 2, none⟩ = some (.int .u64 (m.sq : Int)) := (show Blk w1 (wr.heap.size) 40 (msV m hd') from HK1.out).cell 2
      have z3 : w1.cell? ⟨wr.heap.size, 3, none⟩ = some (.int .u64 (m.ps : Int)) := (show Blk w1 (wr.heap.size) 40 (msV m hd') from HK1.out).cell 3
      have z4 : w1.cell? ⟨wr.heap.size, 4, none⟩ = some (.int .i64 m.ct) := (show Blk w1 (wr.heap.size) 40 (msV m hd') from HK1.out).cell 4
      have z5 : w1.cell? ⟨wr.heap.size, 5, none⟩ = some (.int .i64 m.st) := (show Blk w1 (wr.heap.size) 40 (msV m hd') from HK1.out).cell 5
      have z6 : w1.cell? ⟨wr.heap.size, 6, none⟩ = some (.slice hd'.A1 hd'.n1 hd'.c1) := (show Blk w1 (wr.heap.size) 40 (msV m hd') from HK1.out).cell 6
      have z7 : w1.cell? ⟨wr.heap.size, 7, none⟩ = some (.slice hd'.A2 hd'.n2 hd'.c2) := (show Blk w1 (wr.heap.size) 40 (msV m hd') from HK1.out).cell 7
      have z8 : w1.cell? ⟨wr.heap.size, 8, none⟩ = some (.slice hd'.A3 hd'.n3 hd'.c3) := (show Blk w1 (wr.heap.size) 40 (msV m hd') from HK1.out).cell 8
      have z9 : w1.cell? ⟨wr.heap.size, 9, none⟩ = some (.int .u64 (m.se.1 : Int)) := (show Blk w1 (wr.heap.size) 40 (msV m hd') from HK1.out).cell 9
      have z10 : w1.cell? ⟨wr.heap.size, 10, none⟩ = some (.int .u64 (m.se.2.1 : Int)) := (show Blk w1 (wr.heap.size) 40 (msV m hd') from HK1.out).cell 10
      have z11 : w1.cell? ⟨wr.heap.size, 11, none⟩ = some (.int .u64 (m.se.2.2 : Int)) := (show Blk w1 (wr.heap.size) 40 (msV m hd') from HK1.out).cell 11
      have z12 : w1.cell? ⟨wr.heap.size, 12, none⟩ = some (.int .u64 (m.pr.1 : Int)) := (show Blk w1 (wr.heap.size) 40 (msV m hd') from HK1.out).cell 12
      have z13 : w1.cell? ⟨wr.heap.size, 13, none⟩ = some (.slice hd'.A4 hd'.n4 hd'.c4) := (show Blk w1 (wr.heap.size) 40 (msV m hd') from HK1.out).cell 13
      obtain ⟨mo, hmo⟩ : ∃ q, dec (MOk m) = q := ⟨_, rfl⟩
      have HMR := mright_any HI1.out
      rw [hmo] at HMR
      have HMR' := Lib.hid HMR
      have HMO := Lib.hid hmo
      clear HMR hmo
      have hz1 : wr.heap.size < w1.heap.size := (show Blk w1 wr.heap.size 40 (msV m hd') from HK1.out).lt
      go_wp2_with fail
      refine HMR'.out.mono ?_; rintro e w2 ⟨rfl, hb2⟩
      have HB2 := Lib.hid (stepB HB1.out hb2)
      have HL2 := Lib.hid (HL1.out.below hb2)
      have HI2 := Lib.hid (HI1.out.below hb2)
      have HR2 := Lib.hid (Rp.sl_below HR1.out hb2 (fun k hk => Nat.lt_of_lt_of_le (HDM.out k hk) HB1.out.size))
      have HK2 : Hid (Blk w2 wr.heap.size 40 (msV m hd')) := Lib.hid (keepB (show Blk w1 wr.heap.size 40 (msV m hd') from HK1.out) hb2)
      clear z0 z1 z2 z3 z4 z5 z6 z7 z8 z9 z10 z11 z12 z13
      clear hb2
      cases mo
      case false =>
        have HBAD : Hid (res l = (i, 3)) := res_bad HG.out HIL.out (by rw [HAT.out]; unfold atM; rw [if_pos (of_not_dec HMO.out)]) (by decide)
        go_wp2_with fail
        go_ret3
        exact ⟨HB2.out, .inr ⟨i, 3, rfl, by decide, HBAD.out⟩⟩
      case true =>
      have HOK : Hid (MOk m) := of_dec HMO.out
      have z0 : w2.cell? ⟨wr.heap.size, 0, none⟩ = some (.int .i64 m.kd) := (show Blk w2 wr.heap.size 40 (msV m hd') from HK2.out).cell 0
      obtain ⟨rb, hrb⟩ : ∃ q, (Kd.an m.kd != 0) = q := ⟨_, rfl⟩
      have HKR := krequest_any m.kd
      rw [hrb] at HKR
      have HKR' := Lib.hid HKR
      have HRB : Hid (rq m = rb) := hrb
      clear HKR hrb
      go_wp2_with fail
      refine (HKR'.out _).mono ?_; rintro e w3 ⟨rfl, hb3⟩
      have HB3 := Lib.hid (stepB HB2.out hb3)
      have HL3 := Lib.hid (HL2.out.below hb3)
      have HI3 := Lib.hid (HI2.out.below hb3)
      have HR3 := Lib.hid (Rp.sl_below HR2.out hb3 (fun k hk => Nat.lt_of_lt_of_le (HDM.out k hk) HB2.out.size))
      have HK3 : Hid (Blk w3 wr.heap.size 40 (msV m hd')) := Lib.hid (keepB (show Blk w2 wr.heap.size 40 (msV m hd') from HK2.out) hb3)
      clear z0 hb3
      cases rb
      case true =>
        have z0 : w3.cell? ⟨wr.heap.size, 0, none⟩ = some (.int .i64 m.kd) := (show Blk w3 (wr.heap.size) 40 (msV m hd') from HK3.out).cell 0
        have z1 : w3.cell? ⟨wr.heap.size, 1, none⟩ = some (.int .u64 (m.ep : Int)) := (show Blk w3 (wr.heap.size) 40 (msV m hd') from HK3.out).cell 1
        have z2 : w3.cell? ⟨wr.heap.size, 2, none⟩ = some (.int .u64 (m.sq : Int)) := (show Blk w3 (wr.heap.size) 40 (msV m hd') from HK3.out).cell 2
        have z3 : w3.cell? ⟨wr.heap.size, 3, none⟩ = some (.int .u64 (m.ps : Int)) := (show Blk w3 (wr.heap.size) 40 (msV m hd') from HK3.out).cell 3
        have z4 : w3.cell? ⟨wr.heap.size, 4, none⟩ = some (.int .i64 m.ct) := (show Blk w3 (wr.heap.size) 40 (msV m hd') from HK3.out).cell 4
        have z5 : w3.cell? ⟨wr.heap.size, 5, none⟩ = some (.int .i64 m.st) := (show Blk w3 (wr.heap.size) 40 (msV m hd') from HK3.out).cell 5
        have z6 : w3.cell? ⟨wr.heap.size, 6, none⟩ = some (.slice hd'.A1 hd'.n1 hd'.c1) := (show Blk w3 (wr.heap.size) 40 (msV m hd') from HK3.out).cell 6
        have z7 : w3.cell? ⟨wr.heap.size, 7, none⟩ = some (.slice hd'.A2 hd'.n2 hd'.c2) := (show Blk w3 (wr.heap.size) 40 (msV m hd') from HK3.out).cell 7
        have z8 : w3.cell? ⟨wr.heap.size, 8, none⟩ = some (.slice hd'.A3 hd'.n3 hd'.c3) := (show Blk w3 (wr.heap.size) 40 (msV m hd') from HK3.out).cell 8
        have z9 : w3.cell? ⟨wr.heap.size, 9, none⟩ = some (.int .u64 (m.se.1 : Int)) := (show Blk w3 (wr.heap.size) 40 (msV m hd') from HK3.out).cell 9
        have z10 : w3.cell? ⟨wr.heap.size, 10, none⟩ = some (.int .u64 (m.se.2.1 : Int)) := (show Blk w3 (wr.heap.size) 40 (msV m hd') from HK3.out).cell 10
        have z11 : w3.cell? ⟨wr.heap.size, 11, none⟩ = some (.int .u64 (m.se.2.2 : Int)) := (show Blk w3 (wr.heap.size) 40 (msV m hd') from HK3.out).cell 11
        have z12 : w3.cell? ⟨wr.heap.size, 12, none⟩ = some (.int .u64 (m.pr.1 : Int)) := (show Blk w3 (wr.heap.size) 40 (msV m hd') from HK3.out).cell 12
        have z13 : w3.cell? ⟨wr.heap.size, 13, none⟩ = some (.slice hd'.A4 hd'.n4 hd'.c4) := (show Blk w3 (wr.heap.size) 40 (msV m hd') from HK3.out).cell 13
        have hsq := HI3.out.sq1
        by_cases hlate : begun = true ∧ m.sq ≤ last
        case pos =>
          obtain ⟨rfl, hle⟩ := hlate
          have HA := Lib.hid (asks_late (m := m) (h := hd') HL3.out i hle)
          have HBAD : Hid (res l = (i, 13)) := res_bad HG.out HIL.out (by
            rw [HAT.out]; unfold atM
            rw [if_neg (fun hh => hh HOK.out), if_pos HRB.out, if_pos ((HIS.out.late HG.out m.sq).2 ⟨rfl, hle⟩)]) (by decide)
          clear hle
          go_wp2_with fail
          refine HA.out.mono ?_; rintro e w4 ⟨rfl, hb4⟩
          have HB4 := Lib.hid (stepB HB3.out hb4)
          clear hb4
          go_wp2_with fail
          go_ret3
          exact ⟨HB4.out, .inr ⟨i, 13, rfl, by decide, HBAD.out⟩⟩
        case neg =>
          have HNL : Hid (¬ Late l i m.sq) := fun h => hlate ((HIS.out.late HG.out m.sq).1 h)
          have HA := Lib.hid (asks_ok (m := m) (h := hd') HL3.out i hsq (by have := HPS.out; omega) (fun hbg => by
            rcases Nat.lt_or_ge last m.sq with h1 | h1
            · exact h1
            · exact absurd ⟨hbg, h1⟩ hlate))
          have HG2 := Lib.hid (good_succ HG.out (by
            rw [HAT.out]; unfold atM
            rw [if_neg (fun hh => hh HOK.out), if_pos HRB.out, if_neg HNL.out]))
          clear hlate
          go_wp2_with fail
          refine HA.out.mono ?_; rintro e w4 ⟨rfl, ⟨A4, c4, hl4⟩, hb4⟩
          have HB4 : Hid (Below w.heap.size w w4) := Lib.hid (HB3.out.trans hb4)
          have HL4 := Lib.hid hl4
          have HIS4 := Lib.hid (HIS.out.req HG.out HM.out HRB.out HNL.out)
          clear hl4 hb4 z0 z1 z2 z3 z4 z5 z6 z7 z8 z9 z10 z11 z12 z13
          go_wp2_with fail
          go_roundw
          case rel => exact ⟨i + 1, A4, c4, bm, _, _, _, _, by omega, by go_num, HL4, HIS4, HG2, HB4⟩
          case measure => simp [intOf]; omega
      case false =>
        have HAI : Hid (AnsIn w3 D (some ⟨bo, off, none⟩) n c l i m w.heap.size (w.heap.size + 1) A' c' bm ps f last begun) := ⟨HR3.out, HDM.out, hin, HM.out, HL3.out, by have := HPS.out; omega, HPL.out⟩
        obtain ⟨fm, hfm⟩ : ∃ q, f m.sq = q := ⟨_, rfl⟩
        cases fm
        case none =>
          have HA := Lib.hid (answers_none HAI.out hfm)
          have HAM := Lib.hid (HIS.out.none_open HG.out hfm HOK.out HRB.out)
          clear hfm
          go_wp2_with fail
          refine HA.out.mono ?_; rintro e w4 ⟨r, rfl, hr, hb4⟩
          have HB4 := Lib.hid (stepB HB3.out hb4)
          have HRR : Hid (atC l i = r ∧ r ≠ 0) := by
            show _ ∧ _
            rw [HAT.out, HAM.out]
            rcases hr with ⟨h1, rfl⟩ | ⟨h1, rfl⟩
            · rw [if_pos (askIn_iff.1 h1)]; exact ⟨rfl, by decide⟩
            · rw [if_neg (fun h => h1 (askIn_iff.2 h))]; exact ⟨rfl, by decide⟩
          have hr0 : (r != 0) = true := by simpa using HRR.out.2
          have HBAD : Hid (res l = (i, r)) := res_bad HG.out HIL.out HRR.out.1 HRR.out.2
          clear hb4 hr
          go_wp2_with fail
          go_ret3
          exact ⟨HB4.out, .inr ⟨i, r, rfl, HRR.out.2, HBAD.out⟩⟩
        case some p =>
          obtain ⟨k, q, hp, hki, hq, hqs, ham⟩ := HIS.out.is_open HG.out hfm HOK.out HRB.out
          have HAM : Hid (atC l i = fitsC q m) := HAT.out.trans ham
          by_cases h0 : fitsC q m = 0
          case neg =>
            have HA := answers_bad HAI.out hfm hp hq h0
            have HBAD : Hid (res l = (i, fitsC q m)) := res_bad HG.out HIL.out HAM.out h0
            obtain ⟨r, hr⟩ : ∃ r, fitsC q m = r := ⟨_, rfl⟩
            rw [hr] at HA HBAD h0
            have HA' := Lib.hid HA
            have hr0 : (r != 0) = true := by simpa using h0
            have HR0 := Lib.hid h0
            clear hr h0 HA hp hq hqs ham hfm
            go_wp2_with fail
            refine HA'.out.mono ?_; rintro e w4 ⟨rfl, hb4⟩
            have HB4 := Lib.hid (stepB HB3.out hb4)
            clear hb4
            go_wp2_with fail
            go_ret3
            exact ⟨HB4.out, .inr ⟨i, r, rfl, HR0.out, HBAD.out⟩⟩
          case pos =>
            have HA := Lib.hid (answers_ok HAI.out hfm hp hq h0)
            have HG2 := Lib.hid (good_succ HG.out (HAM.out.trans h0))
            have HIS4 := Lib.hid (HIS.out.ans HG.out HM.out HRB.out hfm hp hq hqs)
            clear h0 hp hq hqs ham hfm
            go_wp2_with fail
            refine HA.out.mono ?_; rintro e w4 ⟨rfl, hl4, hb4⟩
            have HB4 : Hid (Below w.heap.size w w4) := Lib.hid (HB3.out.trans hb4)
            have HL4 := Lib.hid hl4
            clear hl4 hb4
            go_wp2_with fail
            go_roundw
            case rel => exact ⟨i + 1, A', c', bm, _, _, _, _, by omega, by go_num, HL4, HIS4, HG2, HB4⟩
            case measure => simp [intOf]; omega
end
end Go.Proofs.Ytnihaaifkogpbaa
/- What is told of a talk: talk.Check, Pairs, Next, Open, Quiet. -/
namespace Go.Proofs.Ytnihaaifkogpbaa
open Go.ChangeShapes Go.WideShapes Go.ChangeAt Go.RowKit
set_option linter.unusedVariables false
def opnL (l : List Ms) (ps : List Pr2) : List Nat := ps.filterMap fun x => if x.2 < 0 then (l[x.1]?).map (·.sq) else none
theorem opn_succ {l : List Ms} {ps : List Pr2} {k j : Nat} {a : Int} {m : Ms} (hx : ps[k]? = some (j, a)) (hm : l[j]? = some m) : opnL l (ps.take (k + 1)) = opnL l (ps.take k) ++ (if a < 0 then [m.sq] else []) := by
  have e : ps.take (k + 1) = ps.take k ++ [(j, a)] := by rw [List.take_add_one, hx]; rfl
  unfold opnL
  rw [e, List.filterMap_append]
  congr 1
  by_cases h : a < 0
  · simp [h, hm]
  · simp [h]
theorem own_less {w : World} {base base' size n : Nat} {e : TypeId} {v : Value} {xs : List Value} (h : w.ownsRow base e size v n xs) (hb : base' ≤ base) : w.ownsRow base' e size v n xs := by
  refine ⟨h.1, ?_⟩
  rcases h.2 with h0 | ⟨g, cap, cur, hv, hg, hh, hr⟩
  · exact .inl h0
  · exact .inr ⟨g, cap, cur, hv, Nat.le_trans hb hg, hh, hr⟩
theorem opn_len (l : List Ms) (ps : List Pr2) : (opnL l ps).length ≤ ps.length := List.length_filterMap_le ..
section
variable {w : World} {D : Dom} {A : Option Addr} {n c : Nat} {l : List Ms}
set_option maxRecDepth 100000 in
set_option maxHeartbeats 1000000 in
theorem check_any (hs : rpMs.sl w D A n c l) (hD : ∀ k, D k → k < w.heap.size) (hn : n ≤ 1000) :
    Calls Try.prog 13 #[.slice A n c] w fun e w' => e = .returned (.tuple #[.int .i64 ((res l).1 : Int), .int .i64 (res l).2]) ∧ Below w.heap.size w w' := by
  have HG := Lib.hid (goes_any hs hD hn)
  obtain ⟨r, hr⟩ : ∃ r, res l = r := ⟨_, rfl⟩
  rw [hr]
  have HR := Lib.hid hr
  clear hs hD hr
  obtain ⟨r1, r2⟩ := r
  dsimp only
  go_enter Try.func13, Try.ntmps13
  go_wp2_with fail
  refine HG.out.mono ?_; rintro e w1 ⟨hb, ⟨b, rfl, hg, hl⟩ | ⟨i, k, rfl, hk, hbad⟩⟩
  · have h := res_good hg
    rw [HR.out] at h
    injection h with h1 h2
    subst h1; subst h2
    have HB := Lib.hid hb
    clear hb hl hg
    go_wp2_with fail
    go_ret2
    exact ⟨rfl, HB.out⟩
  · rw [HR.out] at hbad
    injection hbad with h1 h2
    subst h1; subst h2
    have HB := Lib.hid hb
    clear hb hk
    go_wp2_with fail
    go_ret2
    exact ⟨rfl, HB.out⟩
/-- What talk.Pairs tells. -/
def PairsIs (w : World) (l : List Ms) (e : Ending) (w' : World) : Prop :=
  Below w.heap.size w w' ∧ ((∃ A c, e = .returned (.tuple #[.slice A (prsOf l l.length l.length).length c, .bool true]) ∧ (res l).2 = 0 ∧ Good l l.length ∧ w'.ownsRow w.heap.size 92 2 (.slice A (prsOf l l.length l.length).length c) (prsOf l l.length l.length).length ((prsOf l l.length l.length).flatMap pr2)) ∨
    e = .returned (.tuple #[.slice none 0 0, .bool false]) ∧ (res l).2 ≠ 0)
/-- What talk.Next tells. -/
def NextIs (w : World) (l : List Ms) (e : Ending) (w' : World) : Prop :=
  Below w.heap.size w w' ∧ ((e = .returned (.tuple #[.int .u64 0, .bool false]) ∧ (res l).2 ≠ 0) ∨ (e = .returned (.tuple #[.int .u64 0, .bool true]) ∧ Good l l.length ∧ lastTo l l.length = none) ∨
    ∃ x y : Nat, e = .returned (.tuple #[.int .u64 (y : Int), .bool (y != 0)]) ∧ Good l l.length ∧ lastTo l l.length = some x ∧ y = (x + 1) % 18446744073709551616)
/-- What talk.Open tells. -/
def OpenIs (w : World) (l : List Ms) (e : Ending) (w' : World) : Prop :=
  Below w.heap.size w w' ∧ ((∃ A c, e = .returned (.tuple #[.slice A (opnL l (prsOf l l.length l.length)).length c, .bool true]) ∧ (res l).2 = 0 ∧ Good l l.length ∧ w'.ownsRow w.heap.size 29 1 (.slice A (opnL l (prsOf l l.length l.length)).length c) (opnL l (prsOf l l.length l.length)).length ((opnL l (prsOf l l.length l.length)).map uv)) ∨
    e = .returned (.tuple #[.slice none 0 0, .bool false]) ∧ (res l).2 ≠ 0)
set_option maxRecDepth 100000 in
set_option maxHeartbeats 4000000 in
theorem open_any (hs : rpMs.sl w D A n c l) (hD : ∀ k, D k → k < w.heap.size) (hn : n ≤ 1000) :
    Calls Try.prog 24 #[.slice A n c] w (OpenIs w l) := by
  have HG := Lib.hid (goes_any hs hD hn)
  have HN := Lib.hid (Rp.sl_len hs).1
  have HSL := Lib.hid (show Sl rpMs w D A n c l from ⟨hs, hD⟩)
  clear hs hD
  go_enter Try.func24, Try.ntmps24
  go_wp2_with fail
  refine HG.out.mono ?_; rintro e w1 ⟨hb, ⟨b, rfl, hg, hl⟩ | ⟨i, k, rfl, hk, hbad⟩⟩
  · obtain ⟨A', c', bm, ps, f, last, begun, hl1, hl2⟩ := hl
    have HL := Lib.hid hl1
    have HS := Lib.hid hl2
    have HGG := Lib.hid hg
    have HB := Lib.hid hb
    have HP := Lib.hid (prIn_own hl1.own)
    have g0 := (show Blk w1 b 89 (logV A' ps.length c' bm last begun) from HL.out.blk).cell 0
    have HPN : Hid (ps.length ≤ 1000) := by
      show _ ≤ _
      have h1 := HS.out.len
      have h2 := HN.out
      omega
    have hpn := HPN.out
    clear hb hl1 hl2 hg
    go_wp2_with fail
    go_loopw [7, 23] (fun v7 v23 wr => ∃ (k : Nat) (As : Option Addr) (cs on : Nat), k ≤ ps.length ∧ v23 = .int .i64 (k : Int) ∧ v7 = .slice As on cs ∧ on ≤ k ∧ Hid (on = (opnL l (ps.take k)).length) ∧ Hid (wr.ownsRow w1.heap.size 29 1 (.slice As on cs) on ((opnL l (ps.take k)).map uv)) ∧ Hid (Below w1.heap.size w1 wr)) (fun _ v23 _ => ps.length - (intOf v23).toNat)
    case atStart => exact ⟨0, none, 0, 0, by omega, rfl, rfl, Nat.le_refl _, rfl, World.ownsRow_nil _ _ _ _, Below.refl _ _⟩
    case round =>
      obtain ⟨k, As, cs, on, hk, rfl, rfl, hok, HON, HOW, hbel⟩ := hrel
      have hzr : w1.heap.size ≤ wr.heap.size := hbel.out.size
      by_cases hkn : k < ps.length
      case neg =>
        obtain rfl : k = ps.length := by omega
        have hd : decide ((ps.length : Int) < (ps.length : Int)) = false := by simp
        have HT : Hid (ps.take ps.length = ps) := List.take_of_length_le (Nat.le_refl _)
        go_wp2_with fail
        go_ret2
        have hon := HON.out
        have how := HOW.out
        rw [HT.out] at hon how
        rw [HS.out.eqn] at hon how
        have hln := HN.out
        refine ⟨stepB HB.out hbel.out, .inl ⟨As, cs, ?_, by rw [res_good HGG.out], HGG.out, ?_⟩⟩
        · rw [← hon]; rfl
        · rw [← hon]; exact own_less how HB.out.size
      case pos =>
        have hd : decide ((k : Int) < (ps.length : Int)) = true := by simp; omega
        have hkI : (0 : Int) ≤ (k : Int) := by omega
        have hkI2 : (k : Int) < (ps.length : Int) := by omega
        have hpr := HP.out.below hbel.out
        obtain ⟨x, hx⟩ : ∃ x, ps[k]? = some x := ⟨_, List.getElem?_eq_getElem (by omega)⟩
        obtain ⟨g, hA', _, z0, z1⟩ := hpr.2 k x hx
        subst hA'
        obtain ⟨j, a⟩ := x
        have hjl := (HS.out.ps_lt hx).1
        have hjn : j < n := by have := HN.out; omega
        have hsr := keepS (keepS HSL.out HB.out) hbel.out
        obtain ⟨bo, off, m, hd', hA, hDb, hm, hmi, hc⟩ := ms_at hsr.1 hsr.2 hjn
        subst hA
        have m2 : wr.cell? ⟨bo, off + j * 14 + 2, none⟩ = some (.int .u64 (m.sq : Int)) := hc 2 _ rfl
        have hbl : bo < wr.heap.size := hsr.2 _ hDb
        have z0' : wr.cell? ⟨g, 0 + k * 2, none⟩ = some (.int .i64 (j : Int)) := by rw [Nat.zero_add]; exact z0
        have z1' : wr.cell? ⟨g, 0 + k * 2 + 1, none⟩ = some (.int .i64 a) := by rw [Nat.zero_add]; exact z1
        simp only at z0 z1
        have HOS := Lib.hid (opn_succ hx hm)
        have hjI : (0 : Int) ≤ (j : Int) := by omega
        have hjI2 : (j : Int) < (n : Int) := by omega
        have hsq := hmi.sq1
        have hba := below1 wr (.cells #[.int .i64 (j : Int), .int .i64 a] 92)
        have HBA := Lib.hid (stepB hbel.out hba)
        have HKA := Lib.hid (blk11 wr 92 #[.int .i64 (j : Int), .int .i64 a])
        have HOA := Lib.hid (keepO HOW.out hba)
        have m2' := (hba.cell (p := ⟨bo, off + j * 14 + 2, none⟩) hbl).trans m2
        clear hc hx hm hmi hsr hDb hpr hba
        go_upto_region 8 with (fail)
        clear z0 z1 z0' z1' m2
        generalize World.alloc wr _ = w4 at *
        have y0 := (show Blk w4 wr.heap.size 92 #[.int .i64 (j : Int), .int .i64 a] from HKA.out).cell 0
        have y1 := (show Blk w4 wr.heap.size 92 #[.int .i64 (j : Int), .int .i64 a] from HKA.out).cell 1
        by_cases ha : a < 0
        case neg =>
          have hda : decide (a < 0) = false := by simpa using ha
          have HON2 : Hid (on = (opnL l (ps.take (k + 1))).length) := by
            show _ = _
            rw [HOS.out, if_neg ha, List.append_nil]; exact HON.out
          have HOW2 : Hid (w4.ownsRow w1.heap.size 29 1 (.slice As on cs) on ((opnL l (ps.take (k + 1))).map uv)) := by
            show World.ownsRow _ _ _ _ _ _ _
            rw [HOS.out, if_neg ha, List.append_nil]; exact HOA.out
          clear ha
          go_wp2_with fail
          go_roundw
          case rel => exact ⟨k + 1, As, cs, on, by omega, by go_num, rfl, by omega, HON2, HOW2, HBA⟩
          case measure => simp [intOf]; omega
        case pos =>
          have hda : decide (a < 0) = true := by simpa using ha
          have HAN := Lib.hid ha
          have hm63 : on + 1 ≤ maxLen := by unfold maxLen; omega
          have hz4 : w1.heap.size ≤ w4.heap.size := HBA.out.size
          have HBB := Lib.hid (stepB HBA.out (below1 w4 (.cells #[.int .u64 (m.sq : Int)] 29)))
          have hz1 := HB.out.size
          clear ha
          go_wp2_with (at_builtin; refine wpList_app rfl (.tmp 30) (.tmp 37) _ rfl elem64 rfl (HOA.out.alloc _) rfl (Src.new w4 (.int .u64 (m.sq : Int)) _ rfl) hm63 (by omega) (by simp; omega) ?_; intro A6 c6 w6 ho6 hg6 hat6
                       have HO6 := Lib.hid ho6
                       have HB6 := Lib.hid (HBB.out.grown hg6 HBB.out.size (fun q hq => ((HOA.out.alloc (.cells #[.int .u64 (m.sq : Int)] 29)).lt q hq).1))
                       clear ho6 hg6 hat6)
          have HON2 : Hid (on + 1 = (opnL l (ps.take (k + 1))).length) := by
            show _ = _
            rw [HOS.out, if_pos HAN.out, List.length_append, ← HON.out]; rfl
          have HOW2 : Hid (w6.ownsRow w1.heap.size 29 1 (.slice A6 (on + 1) c6) (on + 1) ((opnL l (ps.take (k + 1))).map uv)) := by
            show World.ownsRow _ _ _ _ _ _ _
            rw [HOS.out, if_pos HAN.out, List.map_append]; exact HO6.out
          go_roundw
          case rel => exact ⟨k + 1, A6, c6, on + 1, by omega, by go_num, rfl, by omega, HON2, HOW2, HB6⟩
          case measure => simp [intOf]; omega
  · have HB := Lib.hid hb
    have HBAD := Lib.hid hbad
    have HK := Lib.hid hk
    have hk0 : (k != 0) = true := by simpa using hk
    clear hb hk hbad
    go_wp2_with fail
    go_ret2
    exact ⟨HB.out, .inr ⟨rfl, by rw [HBAD.out]; exact HK.out⟩⟩
end
end Go.Proofs.Ytnihaaifkogpbaa
/- talk.Quiet, talk.Fail. -/
namespace Go.Proofs.Ytnihaaifkogpbaa
open Go.ChangeShapes Go.WideShapes Go.ChangeAt Go.RowKit
set_option linter.unusedVariables false
def zeroM : Ms := ⟨0, 0, 0, 0, 0, 0, [], [], [], (0, 0, 0), (0, [])⟩
def failM (ep sq : Nat) (code : Int) : Ms := ⟨14, ep, sq, 0, 0, code, [], [], [], (0, 0, 0), (0, [])⟩
def hdZ : Hd := ⟨none, 0, 0, none, 0, 0, none, 0, 0, none, 0, 0⟩
theorem fail_in (w : World) {ep sq : Nat} {code : Int} (h1 : ep ≤ 18446744073709551615) (h2 : sq ≤ 18446744073709551615) (h3 : -9223372036854775808 ≤ code) (h4 : code ≤ 9223372036854775807) : MsIn w (fun _ => False) (failM ep sq code) hdZ :=
  ⟨Rp.sl_nil _ _ _ _ _ (by decide), Rp.sl_nil _ _ _ _ _ (by decide), Rp.sl_nil _ _ _ _ _ (by decide), Rp.sl_nil _ _ _ _ _ (by decide), fun k h => h.elim, (by decide : (-9223372036854775808 : Int) ≤ 14), (by decide : (14 : Int) ≤ 9223372036854775807), (by decide : (-9223372036854775808 : Int) ≤ 0), (by decide : (0 : Int) ≤ 9223372036854775807), h3, h4, h1, h2, Nat.zero_le _, Nat.zero_le _, Nat.zero_le _, Nat.zero_le _, Nat.zero_le _⟩
abbrev zV : Array Value := #[.int .i64 0, .int .u64 0, .int .u64 0, .int .u64 0, .int .i64 0, .int .i64 0, .slice none 0 0, .slice none 0 0, .slice none 0 0, .int .u64 0, .int .u64 0, .int .u64 0, .int .u64 0, .slice none 0 0]
abbrev failV (ep sq : Nat) (code : Int) : Array Value := #[.int .i64 14, .int .u64 (ep : Int), .int .u64 (sq : Int), .int .u64 0, .int .i64 0, .int .i64 code, .slice none 0 0, .slice none 0 0, .slice none 0 0, .int .u64 0, .int .u64 0, .int .u64 0, .int .u64 0, .slice none 0 0]
theorem failV_eq (ep sq : Nat) (code : Int) : msV (failM ep sq code) hdZ = failV ep sq code := rfl
theorem zV_eq : msV zeroM hdZ = zV := rfl
section
variable {w : World} {D : Dom} {A : Option Addr} {n c : Nat} {l : List Ms}
/-- What talk.Quiet tells. -/
def QuietIs (w : World) (l : List Ms) (e : Ending) (w' : World) : Prop :=
  Below w.heap.size w w' ∧ ((∃ q, e = .returned (.bool q) ∧ (res l).2 = 0 ∧ Good l l.length ∧ (q = true ↔ opnL l (prsOf l l.length l.length) = [])) ∨ e = .returned (.bool false) ∧ (res l).2 ≠ 0)
set_option maxRecDepth 100000 in
set_option maxHeartbeats 1000000 in
theorem quiet_any (hs : rpMs.sl w D A n c l) (hD : ∀ k, D k → k < w.heap.size) (hn : n ≤ 1000) :
    Calls Try.prog 14 #[.slice A n c] w (QuietIs w l) := by
  have HO := Lib.hid (open_any hs hD hn)
  clear hs hD
  go_enter Try.func14, Try.ntmps14
  go_wp2_with fail
  refine HO.out.mono ?_; rintro e w1 ⟨hb, ⟨A', c', rfl, h0, hg, ho⟩ | ⟨rfl, hk⟩⟩
  · obtain ⟨on, hon⟩ : ∃ on, (opnL l (prsOf l l.length l.length)).length = on := ⟨_, rfl⟩
    rw [hon]
    have HON := Lib.hid hon
    have HB := Lib.hid hb
    have H0 := Lib.hid h0
    have HG := Lib.hid hg
    obtain ⟨q, hq⟩ : ∃ q, ((on : Int) == 0) = q := ⟨_, rfl⟩
    have HQ : Hid (q = true ↔ opnL l (prsOf l l.length l.length) = []) := by
      show _ ↔ _
      rw [← hq, beq_iff_eq, ← List.length_eq_zero_iff, hon]; omega
    clear hb h0 hg ho hon
    go_wp2_with fail
    go_ret
    exact ⟨HB.out, .inl ⟨q, rfl, H0.out, HG.out, HQ.out⟩⟩
  · have HB := Lib.hid hb
    have HK := Lib.hid hk
    clear hb hk
    go_wp2_with fail
    go_ret
    exact ⟨HB.out, .inr ⟨rfl, HK.out⟩⟩
end
section
variable {D : Dom} {q : Ms} {hq : Hd} {w : World}
set_option maxRecDepth 100000 in
set_option maxHeartbeats 4000000 in
theorem fail_any (hmq : MsIn w D q hq) {ep : Nat} {code : Int} (he : ep ≤ 18446744073709551615) (hc0 : -9223372036854775808 ≤ code) (hc1 : code ≤ 9223372036854775807) :
    Calls Try.prog 19 #[.agg (msV q hq), .int .u64 (ep : Int), .int .i64 code] w fun e w' => Below w.heap.size w w' ∧
      (fitsC q (failM ep q.sq code) = 0 ∧ e = .returned (.tuple #[.agg (failV ep q.sq code), .int .i64 0]) ∨ ∃ r : Int, r ≠ 0 ∧ fitsC q (failM ep q.sq code) = r ∧ e = .returned (.tuple #[.agg zV, .int .i64 r])) := by
  have HFT := fun u (hu : Below w.heap.size w u) => kfits_any (hmq.below hu) (fail_in u he hmq.sq1 hc0 hc1)
  obtain ⟨r, hr⟩ : ∃ r, fitsC q (failM ep q.sq code) = r := ⟨_, rfl⟩
  rw [hr] at HFT
  rw [failV_eq] at HFT
  rw [hr]
  have HFT' := Lib.hid HFT
  have HSZ : Hid ((Try.prog.info? 40).map (·.size) = some 14) := by show _ = _; kernel_rfl
  clear HFT hmq hr
  have hb3 := below3 w (.cells (msV q hq) 40) (.cells zV 40) (.cells (failV ep q.sq code) 40)
  have HB3 := Lib.hid hb3
  have hb2 := below2 w (.cells (msV q hq) 40) (.cells zV 40)
  have KQ := Lib.hid (blk21 w 40 40 (msV q hq) zV)
  have KZ := Lib.hid (blk22 w 40 40 (msV q hq) zV)
  have hsz : ((w.alloc (.cells (msV q hq) 40)).alloc (.cells zV 40)).heap.size = w.heap.size + 2 := by simp
  have KF : Hid (Blk (((w.alloc (.cells (msV q hq) 40)).alloc (.cells zV 40)).alloc (.cells (failV ep q.sq code) 40)) (w.heap.size + 2) 40 (failV ep q.sq code)) := by
    have h := Blk.new ((w.alloc (.cells (msV q hq) 40)).alloc (.cells zV 40)) 40 (failV ep q.sq code)
    rw [hsz] at h; exact h
  have KQ3 : Hid (Blk (((w.alloc (.cells (msV q hq) 40)).alloc (.cells zV 40)).alloc (.cells (failV ep q.sq code) 40)) w.heap.size 40 (msV q hq)) := KQ.out.alloc _
  have KZ3 : Hid (Blk (((w.alloc (.cells (msV q hq) 40)).alloc (.cells zV 40)).alloc (.cells (failV ep q.sq code) 40)) (w.heap.size + 1) 40 zV) := KZ.out.alloc _
  have k2 : ((w.alloc (.cells (msV q hq) 40)).alloc (.cells zV 40)).cell? ⟨w.heap.size, 2, none⟩ = some (.int .u64 (q.sq : Int)) := (show Blk _ w.heap.size 40 (msV q hq) from KQ.out).cell 2
  clear hb2 hb3 hsz
  go_enter Try.func19, Try.ntmps19
  go_upto_region 2 with (fail)
  clear k2 KQ KZ
  generalize World.alloc (World.alloc (World.alloc w _) _) _ = w3 at *
  have z0 : w3.cell? ⟨w.heap.size, 0, none⟩ = some (.int .i64 q.kd) := (show Blk w3 (w.heap.size) 40 (msV q hq) from KQ3.out).cell 0
  have z1 : w3.cell? ⟨w.heap.size, 1, none⟩ = some (.int .u64 (q.ep : Int)) := (show Blk w3 (w.heap.size) 40 (msV q hq) from KQ3.out).cell 1
  have z2 : w3.cell? ⟨w.heap.size, 2, none⟩ = some (.int .u64 (q.sq : Int)) := (show Blk w3 (w.heap.size) 40 (msV q hq) from KQ3.out).cell 2
  have z3 : w3.cell? ⟨w.heap.size, 3, none⟩ = some (.int .u64 (q.ps : Int)) := (show Blk w3 (w.heap.size) 40 (msV q hq) from KQ3.out).cell 3
  have z4 : w3.cell? ⟨w.heap.size, 4, none⟩ = some (.int .i64 q.ct) := (show Blk w3 (w.heap.size) 40 (msV q hq) from KQ3.out).cell 4
  have z5 : w3.cell? ⟨w.heap.size, 5, none⟩ = some (.int .i64 q.st) := (show Blk w3 (w.heap.size) 40 (msV q hq) from KQ3.out).cell 5
  have z6 : w3.cell? ⟨w.heap.size, 6, none⟩ = some (.slice hq.A1 hq.n1 hq.c1) := (show Blk w3 (w.heap.size) 40 (msV q hq) from KQ3.out).cell 6
  have z7 : w3.cell? ⟨w.heap.size, 7, none⟩ = some (.slice hq.A2 hq.n2 hq.c2) := (show Blk w3 (w.heap.size) 40 (msV q hq) from KQ3.out).cell 7
  have z8 : w3.cell? ⟨w.heap.size, 8, none⟩ = some (.slice hq.A3 hq.n3 hq.c3) := (show Blk w3 (w.heap.size) 40 (msV q hq) from KQ3.out).cell 8
  have z9 : w3.cell? ⟨w.heap.size, 9, none⟩ = some (.int .u64 (q.se.1 : Int)) := (show Blk w3 (w.heap.size) 40 (msV q hq) from KQ3.out).cell 9
  have z10 : w3.cell? ⟨w.heap.size, 10, none⟩ = some (.int .u64 (q.se.2.1 : Int)) := (show Blk w3 (w.heap.size) 40 (msV q hq) from KQ3.out).cell 10
  have z11 : w3.cell? ⟨w.heap.size, 11, none⟩ = some (.int .u64 (q.se.2.2 : Int)) := (show Blk w3 (w.heap.size) 40 (msV q hq) from KQ3.out).cell 11
  have z12 : w3.cell? ⟨w.heap.size, 12, none⟩ = some (.int .u64 (q.pr.1 : Int)) := (show Blk w3 (w.heap.size) 40 (msV q hq) from KQ3.out).cell 12
  have z13 : w3.cell? ⟨w.heap.size, 13, none⟩ = some (.slice hq.A4 hq.n4 hq.c4) := (show Blk w3 (w.heap.size) 40 (msV q hq) from KQ3.out).cell 13
  have y0 : w3.cell? ⟨w.heap.size + 2, 0, none⟩ = some (.int .i64 14) := (show Blk w3 (w.heap.size + 2) 40 (failV ep q.sq code) from KF.out).cell 0
  have y1 : w3.cell? ⟨w.heap.size + 2, 1, none⟩ = some (.int .u64 (ep : Int)) := (show Blk w3 (w.heap.size + 2) 40 (failV ep q.sq code) from KF.out).cell 1
  have y2 : w3.cell? ⟨w.heap.size + 2, 2, none⟩ = some (.int .u64 (q.sq : Int)) := (show Blk w3 (w.heap.size + 2) 40 (failV ep q.sq code) from KF.out).cell 2
  have y3 : w3.cell? ⟨w.heap.size + 2, 3, none⟩ = some (.int .u64 0) := (show Blk w3 (w.heap.size + 2) 40 (failV ep q.sq code) from KF.out).cell 3
  have y4 : w3.cell? ⟨w.heap.size + 2, 4, none⟩ = some (.int .i64 0) := (show Blk w3 (w.heap.size + 2) 40 (failV ep q.sq code) from KF.out).cell 4
  have y5 : w3.cell? ⟨w.heap.size + 2, 5, none⟩ = some (.int .i64 code) := (show Blk w3 (w.heap.size + 2) 40 (failV ep q.sq code) from KF.out).cell 5
  have y6 : w3.cell? ⟨w.heap.size + 2, 6, none⟩ = some (.slice none 0 0) := (show Blk w3 (w.heap.size + 2) 40 (failV ep q.sq code) from KF.out).cell 6
  have y7 : w3.cell? ⟨w.heap.size + 2, 7, none⟩ = some (.slice none 0 0) := (show Blk w3 (w.heap.size + 2) 40 (failV ep q.sq code) from KF.out).cell 7
  have y8 : w3.cell? ⟨w.heap.size + 2, 8, none⟩ = some (.slice none 0 0) := (show Blk w3 (w.heap.size + 2) 40 (failV ep q.sq code) from KF.out).cell 8
  have y9 : w3.cell? ⟨w.heap.size + 2, 9, none⟩ = some (.int .u64 0) := (show Blk w3 (w.heap.size + 2) 40 (failV ep q.sq code) from KF.out).cell 9
  have y10 : w3.cell? ⟨w.heap.size + 2, 10, none⟩ = some (.int .u64 0) := (show Blk w3 (w.heap.size + 2) 40 (failV ep q.sq code) from KF.out).cell 10
  have y11 : w3.cell? ⟨w.heap.size + 2, 11, none⟩ = some (.int .u64 0) := (show Blk w3 (w.heap.size + 2) 40 (failV ep q.sq code) from KF.out).cell 11
  have y12 : w3.cell? ⟨w.heap.size + 2, 12, none⟩ = some (.int .u64 0) := (show Blk w3 (w.heap.size + 2) 40 (failV ep q.sq code) from KF.out).cell 12
  have y13 : w3.cell? ⟨w.heap.size + 2, 13, none⟩ = some (.slice none 0 0) := (show Blk w3 (w.heap.size + 2) 40 (failV ep q.sq code) from KF.out).cell 13
  go_wp2_with fail
  refine (HFT'.out _ HB3.out).mono ?_; rintro e w4 ⟨rfl, hb4⟩
  have HB4 := Lib.hid (stepB HB3.out hb4)
  have KF4 : Hid (Blk w4 (w.heap.size + 2) 40 (failV ep q.sq code)) := Lib.hid (keepB (show Blk w3 (w.heap.size + 2) 40 (failV ep q.sq code) from KF.out) hb4)
  have KZ4 : Hid (Blk w4 (w.heap.size + 1) 40 zV) := Lib.hid (keepB (show Blk w3 (w.heap.size + 1) 40 zV from KZ3.out) hb4)
  clear hb4 z0 z1 z2 z3 z4 z5 z6 z7 z8 z9 z10 z11 z12 z13 y0 y1 y2 y3 y4 y5 y6 y7 y8 y9 y10 y11 y12 y13
  by_cases h0 : r = 0
  case pos =>
    have hr0 : (r != 0) = false := by simpa using h0
    have HR0 := Lib.hid h0
    clear h0
    have y0 : w4.cell? ⟨w.heap.size + 2, 0, none⟩ = some (.int .i64 14) := (show Blk w4 (w.heap.size + 2) 40 (failV ep q.sq code) from KF4.out).cell 0
    have y1 : w4.cell? ⟨w.heap.size + 2, 1, none⟩ = some (.int .u64 (ep : Int)) := (show Blk w4 (w.heap.size + 2) 40 (failV ep q.sq code) from KF4.out).cell 1
    have y2 : w4.cell? ⟨w.heap.size + 2, 2, none⟩ = some (.int .u64 (q.sq : Int)) := (show Blk w4 (w.heap.size + 2) 40 (failV ep q.sq code) from KF4.out).cell 2
    have y3 : w4.cell? ⟨w.heap.size + 2, 3, none⟩ = some (.int .u64 0) := (show Blk w4 (w.heap.size + 2) 40 (failV ep q.sq code) from KF4.out).cell 3
    have y4 : w4.cell? ⟨w.heap.size + 2, 4, none⟩ = some (.int .i64 0) := (show Blk w4 (w.heap.size + 2) 40 (failV ep q.sq code) from KF4.out).cell 4
    have y5 : w4.cell? ⟨w.heap.size + 2, 5, none⟩ = some (.int .i64 code) := (show Blk w4 (w.heap.size + 2) 40 (failV ep q.sq code) from KF4.out).cell 5
    have y6 : w4.cell? ⟨w.heap.size + 2, 6, none⟩ = some (.slice none 0 0) := (show Blk w4 (w.heap.size + 2) 40 (failV ep q.sq code) from KF4.out).cell 6
    have y7 : w4.cell? ⟨w.heap.size + 2, 7, none⟩ = some (.slice none 0 0) := (show Blk w4 (w.heap.size + 2) 40 (failV ep q.sq code) from KF4.out).cell 7
    have y8 : w4.cell? ⟨w.heap.size + 2, 8, none⟩ = some (.slice none 0 0) := (show Blk w4 (w.heap.size + 2) 40 (failV ep q.sq code) from KF4.out).cell 8
    have y9 : w4.cell? ⟨w.heap.size + 2, 9, none⟩ = some (.int .u64 0) := (show Blk w4 (w.heap.size + 2) 40 (failV ep q.sq code) from KF4.out).cell 9
    have y10 : w4.cell? ⟨w.heap.size + 2, 10, none⟩ = some (.int .u64 0) := (show Blk w4 (w.heap.size + 2) 40 (failV ep q.sq code) from KF4.out).cell 10
    have y11 : w4.cell? ⟨w.heap.size + 2, 11, none⟩ = some (.int .u64 0) := (show Blk w4 (w.heap.size + 2) 40 (failV ep q.sq code) from KF4.out).cell 11
    have y12 : w4.cell? ⟨w.heap.size + 2, 12, none⟩ = some (.int .u64 0) := (show Blk w4 (w.heap.size + 2) 40 (failV ep q.sq code) from KF4.out).cell 12
    have y13 : w4.cell? ⟨w.heap.size + 2, 13, none⟩ = some (.slice none 0 0) := (show Blk w4 (w.heap.size + 2) 40 (failV ep q.sq code) from KF4.out).cell 13
    go_wp2_with (refine wpList_put_row rfl 40 (.tmp 6) (.tmp 22) rfl (w.heap.size + 1) (failV ep q.sq code) rfl rfl 40 _ KZ4.out HSZ.out rfl (by simp [Value.oneCell']) ?_; intro w5 hblk hgr)
    try rw [Exit.noGoto_ret]
    have x0 : w5.cell? ⟨w.heap.size + 1, 0, none⟩ = some (.int .i64 14) := (show Blk w5 (w.heap.size + 1) 40 (failV ep q.sq code) from hblk).cell 0
    have x1 : w5.cell? ⟨w.heap.size + 1, 1, none⟩ = some (.int .u64 (ep : Int)) := (show Blk w5 (w.heap.size + 1) 40 (failV ep q.sq code) from hblk).cell 1
    have x2 : w5.cell? ⟨w.heap.size + 1, 2, none⟩ = some (.int .u64 (q.sq : Int)) := (show Blk w5 (w.heap.size + 1) 40 (failV ep q.sq code) from hblk).cell 2
    have x3 : w5.cell? ⟨w.heap.size + 1, 3, none⟩ = some (.int .u64 0) := (show Blk w5 (w.heap.size + 1) 40 (failV ep q.sq code) from hblk).cell 3
    have x4 : w5.cell? ⟨w.heap.size + 1, 4, none⟩ = some (.int .i64 0) := (show Blk w5 (w.heap.size + 1) 40 (failV ep q.sq code) from hblk).cell 4
    have x5 : w5.cell? ⟨w.heap.size + 1, 5, none⟩ = some (.int .i64 code) := (show Blk w5 (w.heap.size + 1) 40 (failV ep q.sq code) from hblk).cell 5
    have x6 : w5.cell? ⟨w.heap.size + 1, 6, none⟩ = some (.slice none 0 0) := (show Blk w5 (w.heap.size + 1) 40 (failV ep q.sq code) from hblk).cell 6
    have x7 : w5.cell? ⟨w.heap.size + 1, 7, none⟩ = some (.slice none 0 0) := (show Blk w5 (w.heap.size + 1) 40 (failV ep q.sq code) from hblk).cell 7
    have x8 : w5.cell? ⟨w.heap.size + 1, 8, none⟩ = some (.slice none 0 0) := (show Blk w5 (w.heap.size + 1) 40 (failV ep q.sq code) from hblk).cell 8
    have x9 : w5.cell? ⟨w.heap.size + 1, 9, none⟩ = some (.int .u64 0) := (show Blk w5 (w.heap.size + 1) 40 (failV ep q.sq code) from hblk).cell 9
    have x10 : w5.cell? ⟨w.heap.size + 1, 10, none⟩ = some (.int .u64 0) := (show Blk w5 (w.heap.size + 1) 40 (failV ep q.sq code) from hblk).cell 10
    have x11 : w5.cell? ⟨w.heap.size + 1, 11, none⟩ = some (.int .u64 0) := (show Blk w5 (w.heap.size + 1) 40 (failV ep q.sq code) from hblk).cell 11
    have x12 : w5.cell? ⟨w.heap.size + 1, 12, none⟩ = some (.int .u64 0) := (show Blk w5 (w.heap.size + 1) 40 (failV ep q.sq code) from hblk).cell 12
    have x13 : w5.cell? ⟨w.heap.size + 1, 13, none⟩ = some (.slice none 0 0) := (show Blk w5 (w.heap.size + 1) 40 (failV ep q.sq code) from hblk).cell 13
    refine bodyPost_ret (v := .tuple #[.agg (failV ep q.sq code), .int .i64 0]) (by simp [results, Try.results19, go_sem, x0, x1, x2, x3, x4, x5, x6, x7, x8, x9, x10, x11, x12, x13]) rfl ⟨HB4.out.grown hgr HB4.out.size (fun q hq => by injection hq with hq; omega), .inl ⟨HR0.out, rfl⟩⟩
  case neg =>
    have hr0 : (r != 0) = true := by simpa using h0
    have HR0 := Lib.hid h0
    clear h0
    go_wp2_with (refine wpList_put_row rfl 40 (.tmp 6) (.tmp 20) rfl (w.heap.size + 1) zV rfl rfl 40 _ KZ4.out HSZ.out rfl (by simp [Value.oneCell']) ?_; intro w5 hblk hgr)
    try rw [Exit.noGoto_ret]
    have x0 : w5.cell? ⟨w.heap.size + 1, 0, none⟩ = some (.int .i64 0) := (show Blk w5 (w.heap.size + 1) 40 (zV) from hblk).cell 0
    have x1 : w5.cell? ⟨w.heap.size + 1, 1, none⟩ = some (.int .u64 0) := (show Blk w5 (w.heap.size + 1) 40 (zV) from hblk).cell 1
    have x2 : w5.cell? ⟨w.heap.size + 1, 2, none⟩ = some (.int .u64 0) := (show Blk w5 (w.heap.size + 1) 40 (zV) from hblk).cell 2
    have x3 : w5.cell? ⟨w.heap.size + 1, 3, none⟩ = some (.int .u64 0) := (show Blk w5 (w.heap.size + 1) 40 (zV) from hblk).cell 3
    have x4 : w5.cell? ⟨w.heap.size + 1, 4, none⟩ = some (.int .i64 0) := (show Blk w5 (w.heap.size + 1) 40 (zV) from hblk).cell 4
    have x5 : w5.cell? ⟨w.heap.size + 1, 5, none⟩ = some (.int .i64 0) := (show Blk w5 (w.heap.size + 1) 40 (zV) from hblk).cell 5
    have x6 : w5.cell? ⟨w.heap.size + 1, 6, none⟩ = some (.slice none 0 0) := (show Blk w5 (w.heap.size + 1) 40 (zV) from hblk).cell 6
    have x7 : w5.cell? ⟨w.heap.size + 1, 7, none⟩ = some (.slice none 0 0) := (show Blk w5 (w.heap.size + 1) 40 (zV) from hblk).cell 7
    have x8 : w5.cell? ⟨w.heap.size + 1, 8, none⟩ = some (.slice none 0 0) := (show Blk w5 (w.heap.size + 1) 40 (zV) from hblk).cell 8
    have x9 : w5.cell? ⟨w.heap.size + 1, 9, none⟩ = some (.int .u64 0) := (show Blk w5 (w.heap.size + 1) 40 (zV) from hblk).cell 9
    have x10 : w5.cell? ⟨w.heap.size + 1, 10, none⟩ = some (.int .u64 0) := (show Blk w5 (w.heap.size + 1) 40 (zV) from hblk).cell 10
    have x11 : w5.cell? ⟨w.heap.size + 1, 11, none⟩ = some (.int .u64 0) := (show Blk w5 (w.heap.size + 1) 40 (zV) from hblk).cell 11
    have x12 : w5.cell? ⟨w.heap.size + 1, 12, none⟩ = some (.int .u64 0) := (show Blk w5 (w.heap.size + 1) 40 (zV) from hblk).cell 12
    have x13 : w5.cell? ⟨w.heap.size + 1, 13, none⟩ = some (.slice none 0 0) := (show Blk w5 (w.heap.size + 1) 40 (zV) from hblk).cell 13
    refine bodyPost_ret (v := .tuple #[.agg zV, .int .i64 r]) (by simp [results, Try.results19, go_sem, x0, x1, x2, x3, x4, x5, x6, x7, x8, x9, x10, x11, x12, x13]) rfl ⟨HB4.out.grown hgr HB4.out.size (fun q hq => by injection hq with hq; omega), .inr ⟨r, HR0.out, rfl, rfl⟩⟩
end
end Go.Proofs.Ytnihaaifkogpbaa
