/- talk.streams, talk.Fits. -/
import Derived.Test.YtlfieiiegokejaaTkB
import Derived.Test.YtlfieiiegokejaaTkQ
import Derived.Test.YtlfieiiegokejaaTkW
import Derived.RegionTactic
namespace Go.Proofs.Ytlfieiiegokejaa
open Go.ChangeShapes Go.WideShapes Go.ChangeAt Go.RowKit
set_option linter.unusedVariables false
section
variable {D : Dom} {A : Option Addr} {n c : Nat} {l : List Lnk} {w : World}
set_option maxRecDepth 100000 in
set_option maxHeartbeats 2000000 in
theorem kstrm_any (hs : rpLnk.sl w D A n c l) (hD : ∀ k, D k → k < w.heap.size) (hn : n ≤ 1000) :
    Calls Try.prog 28 #[.slice A n c] w fun e w' => ∃ A2 c2, e = .returned (.slice A2 n c2) ∧ w'.ownsRow w.heap.size 22 1 (.slice A2 n c2) n ((l.map (·.1)).map uv) ∧ (∀ y ∈ l.map (·.1), y < 18446744073709551616) ∧ Below w.heap.size w w' := by
  have HN := Lib.hid (Rp.sl_len hs).1
  have HS := Lib.hid (show Sl rpLnk w D A n c l from ⟨hs, hD⟩)
  clear hs hD
  go_enter Try.func28, Try.ntmps28
  go_wp2_with fail
  go_loopw [3, 8] (fun v3 v8 wr => ∃ (k : Nat) (As : Option Addr) (cs : Nat), k ≤ n ∧ v3 = .slice As k cs ∧ v8 = .int .i64 (k : Int) ∧ Hid (wr.ownsRow w.heap.size 22 1 (.slice As k cs) k (((l.take k).map (·.1)).map uv)) ∧ Hid (∀ y ∈ (l.take k).map (·.1), y < 18446744073709551616) ∧ Hid (Below w.heap.size w wr)) (fun _ v8 _ => n - (intOf v8).toNat)
  case atStart => exact ⟨0, none, 0, by omega, rfl, rfl, World.ownsRow_nil _ _ _ _, fun y h => by simp at h, Below.refl _ _⟩
  case round =>
    obtain ⟨k, As, cs, hk, rfl, rfl, hown, hlt, hbel⟩ := hrel
    have hzr := hbel.out.size
    by_cases hkn : k < n
    case neg =>
      have hd : decide (k < n) = false := by simpa using hkn
      obtain rfl : k = n := by omega
      have HT : Hid (l.take k = l) := List.take_of_length_le (by have := HN.out; omega)
      go_wp2_with fail
      go_ret
      refine ⟨As, cs, rfl, ?_, ?_, hbel.out⟩
      · have h := hown.out; rw [HT.out] at h; exact h
      · have h := hlt.out; rw [HT.out] at h; exact h
    case pos =>
      have hd : decide (k < n) = true := by simpa using hkn
      have hkI : (0 : Int) ≤ (k : Int) := by omega
      have hkI2 : (k : Int) < (n : Int) := by omega
      have hsr := keepS HS.out hbel.out
      obtain ⟨bo, off, x, A3, c3, rfl, hbD, hx, g0, g1, hrow, hx64⟩ := lnk_at hsr.1 hkn
      obtain ⟨xs, xl⟩ := x
      simp only at g0 g1 hrow hx64
      obtain ⟨xn, hxn⟩ : ∃ xn, xn = xl.length := ⟨_, rfl⟩
      rw [← hxn] at g1
      have hba := below1 wr (.cells #[.int .u64 (xs : Int), .slice A3 xn c3] 64)
      have HBA := Lib.hid (stepB hbel.out hba)
      have HK := Lib.hid (blk11 wr 64 #[.int .u64 (xs : Int), .slice A3 xn c3])
      have HOA := Lib.hid (keepO hown.out hba)
      have HTK : Hid (l.take (k + 1) = l.take k ++ [(xs, xl)]) := by
        show l.take (k + 1) = l.take k ++ [(xs, xl)]
        rw [List.take_add_one, hx]; rfl
      have hm : k + 1 ≤ maxLen := by unfold maxLen; omega
      clear hrow hx hbD hsr hba hxn
      go_upto_region 5 with (fail)
      generalize World.alloc wr _ = w4 at *
      have v0 : w4.cell? ⟨wr.heap.size, 0, none⟩ = some (.int .u64 (xs : Int)) := (show Blk w4 wr.heap.size 64 _ from HK.out).cell 0
      have hz4 := HBA.out.size
      have HBB := Lib.hid (stepB HBA.out (below1 w4 (.cells #[.int .u64 (xs : Int)] 22)))
      clear g0 g1
      go_wp2_with (at_builtin; refine wpList_app rfl (.tmp 12) (.tmp 15) _ rfl elem64 rfl (HOA.out.alloc _) rfl (Src.new w4 (.int .u64 (xs : Int)) _ rfl) hm (by omega) (by simp; omega) ?_; intro A6 c6 w6 ho6 hg6 hat6
                   have HO6 := Lib.hid ho6
                   have HB6 := Lib.hid (HBB.out.grown hg6 HBB.out.size (fun q hq => ((HOA.out.alloc (.cells #[.int .u64 (xs : Int)] 22)).lt q hq).1))
                   clear ho6 hg6 hat6)
      have HOO : Hid (w6.ownsRow w.heap.size 22 1 (.slice A6 (k + 1) c6) (k + 1) (((l.take (k + 1)).map (·.1)).map uv)) := by
        show w6.ownsRow _ _ _ _ _ _
        rw [HTK.out, List.map_append, List.map_append]; exact HO6.out
      have HLT : Hid (∀ y ∈ (l.take (k + 1)).map (·.1), y < 18446744073709551616) := by
        show ∀ y ∈ _, _
        rw [HTK.out, List.map_append]
        intro y hy
        rcases List.mem_append.1 hy with hy | hy
        · exact hlt.out y hy
        · simp at hy; omega
      go_roundw
      case rel => exact ⟨k + 1, A6, c6, by omega, rfl, by go_num, HOO, HLT, HB6⟩
      case measure => simp [intOf]; omega
end
section
variable {D D' : Dom} {q a : Ms} {hq ha : Hd} {w : World}
set_option maxRecDepth 100000 in
set_option maxHeartbeats 4000000 in
theorem kfits_any (hmq : MsIn w D q hq) (hma : MsIn w D' a ha) : Calls Try.prog 9 #[.agg (msV q hq), .agg (msV a ha)] w fun e w' => e = .returned (.int .i64 (fitsC q a)) ∧ Below w.heap.size w w' := by
  have hb0 := below2 w (.cells (msV q hq) 32) (.cells (msV a ha) 32)
  have HB := Lib.hid hb0
  have KQ := Lib.hid (blk21 w 32 32 (msV q hq) (msV a ha))
  have KA := Lib.hid (blk22 w 32 32 (msV q hq) (msV a ha))
  have HQ := Lib.hid (hmq.below hb0)
  have HA := Lib.hid (hma.below hb0)
  obtain ⟨res, hres⟩ : ∃ r, r = fitsC q a := ⟨_, rfl⟩
  rw [← hres]
  have HRES := Lib.hid hres
  have HRQ := mright_any (hmq.below hb0)
  clear hb0 hres hmq hma
  by_cases h1 : MOk q
  case neg =>
    obtain rfl : res = 3 := by rw [HRES.out]; unfold fitsC; rw [if_pos (fun h => h1 h.1)]
    rw [dec_false h1] at HRQ
    have HR1 := Lib.hid HRQ
    clear HRQ h1
    go_enter Try.func9, Try.ntmps9
    go_upto_region 1 with (fail)
    generalize World.alloc (World.alloc w _) _ = w0 at *
    have p0 : w0.cell? ⟨w.heap.size, 0, none⟩ = some (.int .i64 q.kd) := (show Blk w0 w.heap.size 32 (msV q hq) from KQ.out).cell 0
    have p1 : w0.cell? ⟨w.heap.size, 1, none⟩ = some (.int .u64 (q.ep : Int)) := (show Blk w0 w.heap.size 32 (msV q hq) from KQ.out).cell 1
    have p2 : w0.cell? ⟨w.heap.size, 2, none⟩ = some (.int .u64 (q.sq : Int)) := (show Blk w0 w.heap.size 32 (msV q hq) from KQ.out).cell 2
    have p3 : w0.cell? ⟨w.heap.size, 3, none⟩ = some (.int .u64 (q.ps : Int)) := (show Blk w0 w.heap.size 32 (msV q hq) from KQ.out).cell 3
    have p4 : w0.cell? ⟨w.heap.size, 4, none⟩ = some (.int .i64 q.ct) := (show Blk w0 w.heap.size 32 (msV q hq) from KQ.out).cell 4
    have p5 : w0.cell? ⟨w.heap.size, 5, none⟩ = some (.int .i64 q.st) := (show Blk w0 w.heap.size 32 (msV q hq) from KQ.out).cell 5
    have p6 : w0.cell? ⟨w.heap.size, 6, none⟩ = some (.slice hq.A1 hq.n1 hq.c1) := (show Blk w0 w.heap.size 32 (msV q hq) from KQ.out).cell 6
    have p7 : w0.cell? ⟨w.heap.size, 7, none⟩ = some (.slice hq.A2 hq.n2 hq.c2) := (show Blk w0 w.heap.size 32 (msV q hq) from KQ.out).cell 7
    have p8 : w0.cell? ⟨w.heap.size, 8, none⟩ = some (.slice hq.A3 hq.n3 hq.c3) := (show Blk w0 w.heap.size 32 (msV q hq) from KQ.out).cell 8
    have p9 : w0.cell? ⟨w.heap.size, 9, none⟩ = some (.int .u64 (q.se.1 : Int)) := (show Blk w0 w.heap.size 32 (msV q hq) from KQ.out).cell 9
    have p10 : w0.cell? ⟨w.heap.size, 10, none⟩ = some (.int .u64 (q.se.2.1 : Int)) := (show Blk w0 w.heap.size 32 (msV q hq) from KQ.out).cell 10
    have p11 : w0.cell? ⟨w.heap.size, 11, none⟩ = some (.int .u64 (q.se.2.2 : Int)) := (show Blk w0 w.heap.size 32 (msV q hq) from KQ.out).cell 11
    have p12 : w0.cell? ⟨w.heap.size, 12, none⟩ = some (.int .u64 (q.pr.1 : Int)) := (show Blk w0 w.heap.size 32 (msV q hq) from KQ.out).cell 12
    have p13 : w0.cell? ⟨w.heap.size, 13, none⟩ = some (.slice hq.A4 hq.n4 hq.c4) := (show Blk w0 w.heap.size 32 (msV q hq) from KQ.out).cell 13
    go_wp2_with fail
    refine HR1.out.mono ?_; rintro e w1 ⟨rfl, hb1⟩
    go_wp2_with fail
    go_ret
    exact ⟨rfl, stepB HB.out hb1⟩
  case pos =>
  rw [dec_true h1] at HRQ
  have HR1 := Lib.hid HRQ
  have H1 := Lib.hid h1
  clear HRQ h1
  go_enter Try.func9, Try.ntmps9
  go_upto_region 1 with (fail)
  generalize World.alloc (World.alloc w _) _ = w0 at *
  have p0 : w0.cell? ⟨w.heap.size, 0, none⟩ = some (.int .i64 q.kd) := (show Blk w0 w.heap.size 32 (msV q hq) from KQ.out).cell 0
  have p1 : w0.cell? ⟨w.heap.size, 1, none⟩ = some (.int .u64 (q.ep : Int)) := (show Blk w0 w.heap.size 32 (msV q hq) from KQ.out).cell 1
  have p2 : w0.cell? ⟨w.heap.size, 2, none⟩ = some (.int .u64 (q.sq : Int)) := (show Blk w0 w.heap.size 32 (msV q hq) from KQ.out).cell 2
  have p3 : w0.cell? ⟨w.heap.size, 3, none⟩ = some (.int .u64 (q.ps : Int)) := (show Blk w0 w.heap.size 32 (msV q hq) from KQ.out).cell 3
  have p4 : w0.cell? ⟨w.heap.size, 4, none⟩ = some (.int .i64 q.ct) := (show Blk w0 w.heap.size 32 (msV q hq) from KQ.out).cell 4
  have p5 : w0.cell? ⟨w.heap.size, 5, none⟩ = some (.int .i64 q.st) := (show Blk w0 w.heap.size 32 (msV q hq) from KQ.out).cell 5
  have p6 : w0.cell? ⟨w.heap.size, 6, none⟩ = some (.slice hq.A1 hq.n1 hq.c1) := (show Blk w0 w.heap.size 32 (msV q hq) from KQ.out).cell 6
  have p7 : w0.cell? ⟨w.heap.size, 7, none⟩ = some (.slice hq.A2 hq.n2 hq.c2) := (show Blk w0 w.heap.size 32 (msV q hq) from KQ.out).cell 7
  have p8 : w0.cell? ⟨w.heap.size, 8, none⟩ = some (.slice hq.A3 hq.n3 hq.c3) := (show Blk w0 w.heap.size 32 (msV q hq) from KQ.out).cell 8
  have p9 : w0.cell? ⟨w.heap.size, 9, none⟩ = some (.int .u64 (q.se.1 : Int)) := (show Blk w0 w.heap.size 32 (msV q hq) from KQ.out).cell 9
  have p10 : w0.cell? ⟨w.heap.size, 10, none⟩ = some (.int .u64 (q.se.2.1 : Int)) := (show Blk w0 w.heap.size 32 (msV q hq) from KQ.out).cell 10
  have p11 : w0.cell? ⟨w.heap.size, 11, none⟩ = some (.int .u64 (q.se.2.2 : Int)) := (show Blk w0 w.heap.size 32 (msV q hq) from KQ.out).cell 11
  have p12 : w0.cell? ⟨w.heap.size, 12, none⟩ = some (.int .u64 (q.pr.1 : Int)) := (show Blk w0 w.heap.size 32 (msV q hq) from KQ.out).cell 12
  have p13 : w0.cell? ⟨w.heap.size, 13, none⟩ = some (.slice hq.A4 hq.n4 hq.c4) := (show Blk w0 w.heap.size 32 (msV q hq) from KQ.out).cell 13
  go_wp2_with fail
  refine HR1.out.mono ?_; rintro e w1 ⟨rfl, hb1⟩
  have HB1 := Lib.hid hb1
  have KQ1 := Lib.hid (keepB (show Blk w0 w.heap.size 32 (msV q hq) from KQ.out) hb1)
  have KA1 := Lib.hid (keepB (show Blk w0 (w.heap.size + 1) 32 (msV a ha) from KA.out) hb1)
  have HRA := mright_any (HA.out.below hb1)
  clear p0 p1 p2 p3 p4 p5 p6 p7 p8 p9 p10 p11 p12 p13
  clear hb1
  have r0 : w1.cell? ⟨(w.heap.size + 1), 0, none⟩ = some (.int .i64 a.kd) := (show Blk w1 (w.heap.size + 1) 32 (msV a ha) from KA1.out).cell 0
  have r1 : w1.cell? ⟨(w.heap.size + 1), 1, none⟩ = some (.int .u64 (a.ep : Int)) := (show Blk w1 (w.heap.size + 1) 32 (msV a ha) from KA1.out).cell 1
  have r2 : w1.cell? ⟨(w.heap.size + 1), 2, none⟩ = some (.int .u64 (a.sq : Int)) := (show Blk w1 (w.heap.size + 1) 32 (msV a ha) from KA1.out).cell 2
  have r3 : w1.cell? ⟨(w.heap.size + 1), 3, none⟩ = some (.int .u64 (a.ps : Int)) := (show Blk w1 (w.heap.size + 1) 32 (msV a ha) from KA1.out).cell 3
  have r4 : w1.cell? ⟨(w.heap.size + 1), 4, none⟩ = some (.int .i64 a.ct) := (show Blk w1 (w.heap.size + 1) 32 (msV a ha) from KA1.out).cell 4
  have r5 : w1.cell? ⟨(w.heap.size + 1), 5, none⟩ = some (.int .i64 a.st) := (show Blk w1 (w.heap.size + 1) 32 (msV a ha) from KA1.out).cell 5
  have r6 : w1.cell? ⟨(w.heap.size + 1), 6, none⟩ = some (.slice ha.A1 ha.n1 ha.c1) := (show Blk w1 (w.heap.size + 1) 32 (msV a ha) from KA1.out).cell 6
  have r7 : w1.cell? ⟨(w.heap.size + 1), 7, none⟩ = some (.slice ha.A2 ha.n2 ha.c2) := (show Blk w1 (w.heap.size + 1) 32 (msV a ha) from KA1.out).cell 7
  have r8 : w1.cell? ⟨(w.heap.size + 1), 8, none⟩ = some (.slice ha.A3 ha.n3 ha.c3) := (show Blk w1 (w.heap.size + 1) 32 (msV a ha) from KA1.out).cell 8
  have r9 : w1.cell? ⟨(w.heap.size + 1), 9, none⟩ = some (.int .u64 (a.se.1 : Int)) := (show Blk w1 (w.heap.size + 1) 32 (msV a ha) from KA1.out).cell 9
  have r10 : w1.cell? ⟨(w.heap.size + 1), 10, none⟩ = some (.int .u64 (a.se.2.1 : Int)) := (show Blk w1 (w.heap.size + 1) 32 (msV a ha) from KA1.out).cell 10
  have r11 : w1.cell? ⟨(w.heap.size + 1), 11, none⟩ = some (.int .u64 (a.se.2.2 : Int)) := (show Blk w1 (w.heap.size + 1) 32 (msV a ha) from KA1.out).cell 11
  have r12 : w1.cell? ⟨(w.heap.size + 1), 12, none⟩ = some (.int .u64 (a.pr.1 : Int)) := (show Blk w1 (w.heap.size + 1) 32 (msV a ha) from KA1.out).cell 12
  have r13 : w1.cell? ⟨(w.heap.size + 1), 13, none⟩ = some (.slice ha.A4 ha.n4 ha.c4) := (show Blk w1 (w.heap.size + 1) 32 (msV a ha) from KA1.out).cell 13
  by_cases h2 : MOk a
  case neg =>
    obtain rfl : res = 3 := by rw [HRES.out]; unfold fitsC; rw [if_pos (fun h => h2 h.2)]
    rw [dec_false h2] at HRA
    have HR2 := Lib.hid HRA
    clear HRA h2
    go_wp2_with fail
    refine HR2.out.mono ?_; rintro e w2 ⟨rfl, hb2⟩
    go_wp2_with fail
    go_ret
    exact ⟨rfl, stepB HB.out (stepB HB1.out hb2)⟩
  case pos =>
  rw [dec_true h2] at HRA
  have HR2 := Lib.hid HRA
  have H2 := Lib.hid h2
  have HF : Hid (fitsC q a = if Kd.ans q.kd a.kd = false then 7 else if q.sq ≠ a.sq then 13 else if a.kd ≠ 14 ∧ q.ep ≠ a.ep then 18 else if a.kd = 12 ∧ a.ls.map (·.1) ≠ q.ss then 16 else 0) := by
    show _ = _
    unfold fitsC
    rw [if_neg (fun h => h ⟨H1.out, H2.out⟩)]
  clear HRA h2
  go_wp2_with fail
  refine HR2.out.mono ?_; rintro e w2 ⟨rfl, hb2⟩
  have HB2 := Lib.hid (stepB HB1.out hb2)
  have KQ2 := Lib.hid (keepB (show Blk w1 w.heap.size 32 (msV q hq) from KQ1.out) hb2)
  have KA2 := Lib.hid (keepB (show Blk w1 (w.heap.size + 1) 32 (msV a ha) from KA1.out) hb2)
  clear r0 r1 r2 r3 r4 r5 r6 r7 r8 r9 r10 r11 r12 r13
  clear hb2
  have p0 : w2.cell? ⟨w.heap.size, 0, none⟩ = some (.int .i64 q.kd) := (show Blk w2 w.heap.size 32 (msV q hq) from KQ2.out).cell 0
  have r0 : w2.cell? ⟨(w.heap.size + 1), 0, none⟩ = some (.int .i64 a.kd) := (show Blk w2 (w.heap.size + 1) 32 (msV a ha) from KA2.out).cell 0
  have HAN := Lib.hid (kanswers_any q.kd a.kd w2)
  obtain ⟨an, han⟩ : ∃ x, Kd.ans q.kd a.kd = x := ⟨_, rfl⟩
  rw [han] at HAN HF
  clear han
  go_wp2_with fail
  refine HAN.out.mono ?_; rintro e w3 ⟨rfl, hb3⟩
  have HB3 := Lib.hid (stepB HB2.out hb3)
  have KQ3 := Lib.hid (keepB (show Blk w2 w.heap.size 32 (msV q hq) from KQ2.out) hb3)
  have KA3 := Lib.hid (keepB (show Blk w2 (w.heap.size + 1) 32 (msV a ha) from KA2.out) hb3)
  have HQ3 := Lib.hid (HQ.out.below HB3.out)
  have HA3 := Lib.hid (HA.out.below HB3.out)
  clear hb3 p0 r0
  cases an
  case false =>
    obtain rfl : res = 7 := by rw [HRES.out, HF.out]; rfl
    go_wp2_with fail
    go_ret
    exact ⟨rfl, stepB HB.out HB3.out⟩
  case true =>
  have p1 : w3.cell? ⟨w.heap.size, 1, none⟩ = some (.int .u64 (q.ep : Int)) := (show Blk w3 w.heap.size 32 (msV q hq) from KQ3.out).cell 1
  have p2 : w3.cell? ⟨w.heap.size, 2, none⟩ = some (.int .u64 (q.sq : Int)) := (show Blk w3 w.heap.size 32 (msV q hq) from KQ3.out).cell 2
  have p6 : w3.cell? ⟨w.heap.size, 6, none⟩ = some (.slice hq.A1 hq.n1 hq.c1) := (show Blk w3 w.heap.size 32 (msV q hq) from KQ3.out).cell 6
  have r0 : w3.cell? ⟨(w.heap.size + 1), 0, none⟩ = some (.int .i64 a.kd) := (show Blk w3 (w.heap.size + 1) 32 (msV a ha) from KA3.out).cell 0
  have r1 : w3.cell? ⟨(w.heap.size + 1), 1, none⟩ = some (.int .u64 (a.ep : Int)) := (show Blk w3 (w.heap.size + 1) 32 (msV a ha) from KA3.out).cell 1
  have r2 : w3.cell? ⟨(w.heap.size + 1), 2, none⟩ = some (.int .u64 (a.sq : Int)) := (show Blk w3 (w.heap.size + 1) 32 (msV a ha) from KA3.out).cell 2
  have r7 : w3.cell? ⟨(w.heap.size + 1), 7, none⟩ = some (.slice ha.A2 ha.n2 ha.c2) := (show Blk w3 (w.heap.size + 1) 32 (msV a ha) from KA3.out).cell 7
  by_cases h3 : q.sq = a.sq
  case neg =>
    obtain rfl : res = 13 := by rw [HRES.out, HF.out, if_neg (by decide), if_pos h3]
    have hd3 : ((q.sq : Int) != (a.sq : Int)) = true := by simp; omega
    clear h3
    go_wp2_with fail
    go_ret
    exact ⟨rfl, stepB HB.out HB3.out⟩
  case pos =>
  have hd3 : ((q.sq : Int) != (a.sq : Int)) = false := by simp; omega
  by_cases h4 : a.kd ≠ 14 ∧ q.ep ≠ a.ep
  case pos =>
    obtain rfl : res = 18 := by rw [HRES.out, HF.out, if_neg (by decide), if_neg (fun h => h h3), if_pos h4]
    have hd4 : (a.kd != 14) = true := by simpa using h4.1
    have hd5 : ((q.ep : Int) != (a.ep : Int)) = true := by have := h4.2; simp; omega
    clear h3 h4
    go_wp2_with fail
    go_ret
    exact ⟨rfl, stepB HB.out HB3.out⟩
  case neg =>
  have HF5 : Hid (res = if a.kd = 12 ∧ a.ls.map (·.1) ≠ q.ss then 16 else 0) := by
    show _ = _
    rw [HRES.out, HF.out, if_neg (by decide), if_neg (fun h => h h3), if_neg h4]
  by_cases h12 : a.kd = 12
  case neg =>
    obtain rfl : res = 0 := by rw [HF5.out, if_neg (fun h => h12 h.1)]
    have hd12 : (a.kd == 12) = false := by simpa using h12
    have hc : (a.kd != 14) = false ∨ ((a.kd != 14) = true ∧ ((q.ep : Int) != (a.ep : Int)) = false) := by
      by_cases hx : a.kd = 14
      · exact .inl (by simpa using hx)
      · exact .inr ⟨by simpa using hx, by have : q.ep = a.ep := Decidable.byContradiction fun hn => h4 ⟨hx, hn⟩
                                          simp [this]⟩
    clear h3 h4 h12
    rcases hc with hd4 | ⟨hd4, hd5⟩
    all_goals
      go_upto_region 9 with (fail)
      have k0 : ∀ q : Gr w3.heap.size w3, q.val.cell? ⟨w.heap.size + 1, 0, none⟩ = some (.int .i64 a.kd) := fun q => (q.is.cell (p := ⟨w.heap.size + 1, 0, none⟩) (show Blk w3 (w.heap.size + 1) 32 (msV a ha) from KA3.out).lt).trans r0
      refine wp_region_grow (by kernel_rfl) (by kernel_rfl) w3.heap.size ?_
      repeat (first | go_big_quiet_step (fail) | quiet_step (fail))
      refine wpQuiet_nil ?_
      rintro w5 ⟨⟨_, hb5⟩, rfl⟩
      go_wp2_with fail
      go_ret
      exact ⟨rfl, stepB HB.out (stepB HB3.out hb5)⟩
  case pos =>
  have hd12 : (a.kd == 12) = true := by simpa using h12
  have hd4 : (a.kd != 14) = true := by simp [h12]
  have hd5 : ((q.ep : Int) != (a.ep : Int)) = false := by
    have : q.ep = a.ep := Decidable.byContradiction fun hn => h4 ⟨by omega, hn⟩
    simp [this]
  have hn16 : ha.n2 ≤ 1000 := by
    have hp := H2.out.1.2.2.2.2.2.1
    unfold part at hp
    have e : Kd.has a.kd 16 = true := by rw [h12]; decide
    rw [if_pos e] at hp
    have h1 := hp.1
    have h2 := (Rp.sl_len HA3.out.ls).1
    omega
  have HST : Hid (∀ u, Below w3.heap.size w3 u → Calls Try.prog 28 #[.slice ha.A2 ha.n2 ha.c2] u fun e w' => ∃ A2 c2, e = .returned (.slice A2 ha.n2 c2) ∧ w'.ownsRow u.heap.size 22 1 (.slice A2 ha.n2 c2) ha.n2 ((a.ls.map (·.1)).map uv) ∧ (∀ y ∈ a.ls.map (·.1), y < 18446744073709551616) ∧ Below u.heap.size u w') := fun u hu => kstrm_any (HA3.out.below hu).ls (HA3.out.below hu).dom hn16
  have hlp := (show Blk w3 w.heap.size 32 (msV q hq) from KQ3.out).lt
  have hlr := (show Blk w3 (w.heap.size + 1) 32 (msV a ha) from KA3.out).lt
  have HE12 := Lib.hid h12
  clear h3 h4 h12 hn16
  by_cases heq : a.ls.map (·.1) = q.ss
  case pos =>
    obtain rfl : res = 0 := by rw [HF5.out, if_neg (fun h => h.2 heq)]
    have HEQ : Hid (dec (a.ls.map (·.1) = q.ss) = true) := dec_true heq
    clear heq
    go_upto_region 9 with (fail)
    clear hd3 hd4 hd5 p1 p2 r1 r2
    go_region_law ((first
      | (go_simp; refine (HST.out _ ((Below.refl _ _).drew)).mono ?_; rintro e w4 ⟨A2, c2, rfl, hown, hlt, hb4⟩
         have hb4' : Below w3.heap.size w3 w4 := ⟨hb4.os, hb4.tape, hb4.output, hb4.size, hb4.block⟩
         have HO4 := Lib.hid (own_u64 hown hlt)
         have HOD := Lib.hid (own_dom hown)
         have HB4 := Lib.hid hb4'
         have p6b := (hb4'.cell (p := ⟨w.heap.size, 6, none⟩) hlp).trans p6
         have HEE := Lib.hid (eq64_any HO4.out (HQ3.out.below hb4').ss HOD.out (HQ3.out.below hb4').dom)
         clear hown hlt hb4 hb4'
         dsimp only)
      | (go_simp; refine HEE.out.mono ?_; rintro e w6 ⟨rfl, hb6⟩
         have HB6 := Lib.hid (stepB HB4.out hb6)
         rw [HEQ.out]
         clear hb6
         dsimp only)))
    all_goals
      go_wp2_with fail
      go_ret
      exact ⟨rfl, stepB HB.out (stepB HB3.out HB6.out)⟩
  case neg =>
    obtain rfl : res = 16 := by rw [HF5.out, if_pos ⟨HE12.out, heq⟩]
    have HEQ : Hid (dec (a.ls.map (·.1) = q.ss) = false) := dec_false heq
    clear heq
    go_upto_region 9 with (fail)
    clear hd3 hd4 hd5 p1 p2 r1 r2
    go_region_law ((first
      | (go_simp; refine (HST.out _ ((Below.refl _ _).drew)).mono ?_; rintro e w4 ⟨A2, c2, rfl, hown, hlt, hb4⟩
         have hb4' : Below w3.heap.size w3 w4 := ⟨hb4.os, hb4.tape, hb4.output, hb4.size, hb4.block⟩
         have HO4 := Lib.hid (own_u64 hown hlt)
         have HOD := Lib.hid (own_dom hown)
         have HB4 := Lib.hid hb4'
         have p6b := (hb4'.cell (p := ⟨w.heap.size, 6, none⟩) hlp).trans p6
         have HEE := Lib.hid (eq64_any HO4.out (HQ3.out.below hb4').ss HOD.out (HQ3.out.below hb4').dom)
         clear hown hlt hb4 hb4'
         dsimp only)
      | (go_simp; refine HEE.out.mono ?_; rintro e w6 ⟨rfl, hb6⟩
         have HB6 := Lib.hid (stepB HB4.out hb6)
         rw [HEQ.out]
         clear hb6
         dsimp only)))
    all_goals
      go_wp2_with fail
      go_ret
      exact ⟨rfl, stepB HB.out (stepB HB3.out HB6.out)⟩
end
end Go.Proofs.Ytlfieiiegokejaa
