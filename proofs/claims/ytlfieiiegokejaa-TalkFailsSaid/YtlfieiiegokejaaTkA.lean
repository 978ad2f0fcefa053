/- A request goes into the log. -/
import Derived.Test.YtlfieiiegokejaaTkO
import Derived.Test.YtlfieiiegokejaaTkW
import Derived.Deep.DeepCutAuto
import Derived.Deep.CutBlock
import Derived.BigQuiet
import Derived.RegionTactic
import Derived.StillTailTactics
namespace Go.Proofs.Ytlfieiiegokejaa
open Go.ChangeShapes Go.WideShapes Go.ChangeAt Go.RowKit
set_option linter.unusedVariables false
section
variable {w : World} {base b bm c : Nat} {A : Option Addr} {ps : List Pr2} {f : Nat → Option Nat} {last : Nat} {begun : Bool} {m : Ms} {h : Hd}
set_option maxRecDepth 100000 in
set_option maxHeartbeats 1000000 in
theorem asks_late (hl : LogIn w base b A c bm ps f last true) (at' : Nat) (hlt : m.sq ≤ last) :
    Calls Try.prog 43 #[.pointer (some ⟨b, 0, none⟩), .int .i64 (at' : Int), .agg (msV m h)] w fun e w' => e = .returned (.int .i64 13) ∧ Below w.heap.size w w' := by
  have hd : decide (m.sq ≤ last) = true := by simpa using hlt
  have hd2 : decide ((m.sq : Int) ≤ (last : Int)) = true := by simp; omega
  clear hlt
  have hba := below1 w (.cells (msV m h) 32)
  have HB := Lib.hid hba
  have HK := Lib.hid (blk11 w 32 (msV m h))
  have HL1 := Lib.hid (hl.below hba)
  have HZ := Lib.hid hl.size
  have HBL := Lib.hid hl.blk.lt
  clear hba hl
  go_enter Try.func43, Try.ntmps43
  go_upto_region 1 with (fail)
  generalize World.alloc w _ = w0 at *
  have k2 := (show Blk w0 w.heap.size 32 (msV m h) from HK.out).cell 2
  have g2 := (show Blk w0 b 75 (logV A ps.length c bm last true) from HL1.out.blk).cell 2
  have g3 := (show Blk w0 b 75 (logV A ps.length c bm last true) from HL1.out.blk).cell 3
  go_quiet (fail)
  go_wp2_with fail
  go_ret
  exact ⟨rfl, HB.out.os, HB.out.tape, HB.out.output, HB.out.size, HB.out.block⟩
set_option maxRecDepth 100000 in
set_option maxHeartbeats 2000000 in
theorem asks_ok (hl : LogIn w base b A c bm ps f last begun) (at' : Nat) (hsq : m.sq ≤ 18446744073709551615) (hn : ps.length ≤ 1000) (hlt : begun = true → last < m.sq) :
    Calls Try.prog 43 #[.pointer (some ⟨b, 0, none⟩), .int .i64 (at' : Int), .agg (msV m h)] w fun e w' => e = .returned (.int .i64 0) ∧ (∃ A' c', LogIn w' base b A' c' bm (ps ++ [(at', -1)]) (fput f m.sq ps.length) m.sq true) ∧ Below base w w' := by
  have HLT := Lib.hid hlt
  clear hlt
  have hba := below1 w (.cells (msV m h) 32)
  have HB := Lib.hid hba
  have HK := Lib.hid (blk11 w 32 (msV m h))
  have HL1 := Lib.hid (hl.below hba)
  have HZ := Lib.hid hl.size
  have HBL := Lib.hid hl.blk.lt
  clear hba hl
  go_enter Try.func43, Try.ntmps43
  go_upto_region 1 with (fail)
  generalize World.alloc w _ = w0 at *
  have k2 := (show Blk w0 w.heap.size 32 (msV m h) from HK.out).cell 2
  have g2 := (show Blk w0 b 75 (logV A ps.length c bm last begun) from HL1.out.blk).cell 2
  have g3 := (show Blk w0 b 75 (logV A ps.length c bm last begun) from HL1.out.blk).cell 3
  go_cut [19] (fun s19 wx => s19 = .bool false ∧ Hid (Below w0.heap.size w0 wx))
  case first =>
    cases begun
    case false =>
      go_quiet (fail)
      go_wp2_with fail
      go_meet
      exact ⟨rfl, Lib.hid ⟨rfl, rfl, rfl, Nat.le_refl _, fun _ _ => rfl⟩⟩
    case true =>
      have hd : decide (m.sq ≤ last) = false := by have := HLT.out rfl; simp; omega
      have hd2 : decide ((m.sq : Int) ≤ (last : Int)) = false := by have := HLT.out rfl; simp; omega
      go_quiet (fail)
      go_wp2_with fail
      go_meet
      exact ⟨rfl, Lib.hid ⟨rfl, rfl, rfl, Nat.le_refl _, fun _ _ => rfl⟩⟩
  case rest =>
  obtain ⟨rfl, hbx⟩ := hcut
  have HBX := Lib.hid (stepB HB.out hbx.out)
  have HL2 := Lib.hid (HL1.out.below hbx.out)
  have HK2 : Hid (Blk wc w.heap.size 32 (msV m h)) := keepB (show Blk w0 w.heap.size 32 (msV m h) from HK.out) hbx.out
  clear hbx HLT k2 g2 g3
  go_upto_region 3 with (fail)
  have k2 : wc.cell? ⟨w.heap.size, 2, none⟩ = some (.int .u64 (m.sq : Int)) := (show Blk wc w.heap.size 32 (msV m h) from HK2.out).cell 2
  have g0 : wc.cell? ⟨b, 0, none⟩ = some (.slice A ps.length c) := (show Blk wc b 75 (logV A ps.length c bm last begun) from HL2.out.blk).cell 0
  have g1 : wc.cell? ⟨b, 1, none⟩ = some (.map (some bm)) := (show Blk wc b 75 (logV A ps.length c bm last begun) from HL2.out.blk).cell 1
  go_still_tail 11, (by kernel_rfl)
  change wpList _ _ _ _ _ wc.drew
  have hdr : Below wc.heap.size wc wc.drew := (Below.refl _ _).drew
  have HLD := Lib.hid (HL2.out.below hdr)
  have HKD : Hid (Blk wc.drew w.heap.size 32 (msV m h)) := keepB (show Blk wc w.heap.size 32 (msV m h) from HK2.out) hdr
  have HBD := Lib.hid (stepB HBX.out hdr)
  clear k2 g0 g1 hdr
  refine wpList_map_put rfl (.tmp 23) (.tmp 25) (.tmp 30) rfl HLD.out.map hsq (show ps.length ≤ 9223372036854775807 by omega) (by unfold maxLen; omega) rfl rfl rfl ?_
  intro w3 hm3 hg3
  have HM3 := Lib.hid hm3
  have HL3 : Hid (Blk w3 b 75 (logV A ps.length c bm last begun)) := Lib.hid (HLD.out.blk.grown hg3 (fun e => by injection e with e; exact map_ne HLD.out.blk HLD.out.map e))
  have HO3 := Lib.hid (HLD.out.own.kept hg3 (.inr (fun e => map_ne_row HLD.out.map HLD.out.own e.symm)))
  have HK3 : Hid (Blk w3 w.heap.size 32 (msV m h)) := Lib.hid ((show Blk wc.drew w.heap.size 32 (msV m h) from HKD.out).grown hg3 (fun e => by injection e with e; exact map_ne (show Blk wc.drew w.heap.size 32 (msV m h) from HKD.out) HLD.out.map e))
  have HB3 : Hid (Below base w w3) := Lib.hid ((HBD.out.mono HZ.out).grown hg3 (Nat.le_trans HZ.out HBD.out.size) (fun q hq => by injection hq with hq; have := HLD.out.bm0; omega))
  have hz3 : w.heap.size ≤ w3.heap.size := HB3.out.size
  have hb0 := HL2.out.b0
  have hbm0 := HL2.out.bm0
  clear hm3 hg3
  have g0 : w3.cell? ⟨b, 0, none⟩ = some (.slice A ps.length c) := (show Blk w3 b 75 (logV A ps.length c bm last begun) from HL3.out).cell 0
  have HOA := Lib.hid (HO3.out.alloc (.cells #[.int .i64 (at' : Int), .int .i64 (-1)] 54))
  have HBA : Hid (Below base w (w3.alloc (.cells #[.int .i64 (at' : Int), .int .i64 (-1)] 54))) := Lib.hid (HB3.out.alloc (by have := HZ.out; omega) _)
  have HLA : Hid (Blk (w3.alloc (.cells #[.int .i64 (at' : Int), .int .i64 (-1)] 54)) b 75 (logV A ps.length c bm last begun)) := Lib.hid ((show Blk w3 b 75 (logV A ps.length c bm last begun) from HL3.out).alloc _)
  have HKA : Hid (Blk (w3.alloc (.cells #[.int .i64 (at' : Int), .int .i64 (-1)] 54)) w.heap.size 32 (msV m h)) := Lib.hid ((show Blk w3 w.heap.size 32 (msV m h) from HK3.out).alloc _)
  have HMA := Lib.hid (HM3.out.below (below1 w3 (.cells #[.int .i64 (at' : Int), .int .i64 (-1)] 54)) HM3.out.lt)
  go_upto_region 5 with (at_builtin; refine wpList_app rfl (.tmp 35) (.tmp 38) _ rfl elemPr rfl HOA.out rfl (Src.pr w3 (at', -1) _) (by unfold maxLen; omega) (by omega) (by simp; have := HZ.out; omega) ?_; intro A2 c2 w4 ho4 hg4 hat4
                         have HO4 := Lib.hid ho4
                         have HB4 : Hid (Below base w w4) := Lib.hid (HBA.out.grown hg4 (by have := HZ.out; simp; omega) (fun q hq => (HOA.out.lt q hq).1))
                         have HL4 : Hid (Blk w4 b 75 (logV A ps.length c bm last begun)) := Lib.hid ((show Blk (w3.alloc (.cells #[.int .i64 (at' : Int), .int .i64 (-1)] 54)) b 75 (logV A ps.length c bm last begun) from HLA.out).grown hg4 (row_ne HLA.out HOA.out (by decide)))
                         have HK4 : Hid (Blk w4 w.heap.size 32 (msV m h)) := Lib.hid ((show Blk (w3.alloc (.cells #[.int .i64 (at' : Int), .int .i64 (-1)] 54)) w.heap.size 32 (msV m h) from HKA.out).grown hg4 (row_ne HKA.out HOA.out (by decide)))
                         have HM4 := Lib.hid (HMA.out.same (hg4.block bm HMA.out.lt (map_ne_row HMA.out HOA.out)))
                         have g40 : w4.cell? ⟨b, 0, none⟩ = some (.slice A ps.length c) := (show Blk w4 b 75 (logV A ps.length c bm last begun) from HL4.out).cell 0
                         have f40 := (show Blk w4 b 75 (logV A ps.length c bm last begun) from HL4.out).frozen 0
                         clear ho4 hg4 hat4)
  have HL5 : Hid (Blk (w4.setCell ⟨b, 0, none⟩ (.slice A2 (ps.length + 1) c2)) b 75 (logV A2 (ps.length + 1) c2 bm last begun)) := Lib.hid (HL4.out.put 0 (.slice A2 (ps.length + 1) c2))
  have HO5 := Lib.hid (HO4.out.kept (grown_setCell w4 ⟨b, 0, none⟩ (.slice A2 (ps.length + 1) c2)) (.inr (fun e => row_ne HL4.out HO4.out (by decide) e.symm)))
  have HM5 := Lib.hid (HM4.out.same (Below.heap_setCell w4 ⟨b, 0, none⟩ (.slice A2 (ps.length + 1) c2) bm (fun e => map_ne HL4.out HM4.out e.symm)))
  have HK5 : Hid (Blk (w4.setCell ⟨b, 0, none⟩ (.slice A2 (ps.length + 1) c2)) w.heap.size 32 (msV m h)) := Lib.hid (HK4.out.far (p := ⟨b, 0, none⟩) (fun e => by have h1 := HBL.out; have h2 : w.heap.size = b := e; omega) _)
  have HB5 := Lib.hid (HB4.out.setCell (p := ⟨b, 0, none⟩) hb0 (.slice A2 (ps.length + 1) c2))
  generalize World.setCell w4 _ _ = w5 at *
  clear g40 f40 g0
  have k2 : w5.cell? ⟨w.heap.size, 2, none⟩ = some (.int .u64 (m.sq : Int)) := (show Blk w5 w.heap.size 32 (msV m h) from HK5.out).cell 2
  have f2 := (show Blk w5 b 75 (logV A2 (ps.length + 1) c2 bm last begun) from HL5.out).frozen 2
  have f3 := (show Blk w5 b 75 (logV A2 (ps.length + 1) c2 bm last begun) from HL5.out).frozen 3
  have g2 := (show Blk w5 b 75 (logV A2 (ps.length + 1) c2 bm last begun) from HL5.out).cell 2
  have g3 := (show Blk w5 b 75 (logV A2 (ps.length + 1) c2 bm last begun) from HL5.out).cell 3
  have HL6 : Hid (Blk (w5.setCell ⟨b, 2, none⟩ (.int .u64 (m.sq : Int))) b 75 (logV A2 (ps.length + 1) c2 bm m.sq begun)) := Lib.hid (HL5.out.put 2 (.int .u64 (m.sq : Int)))
  have f63 := (show Blk (w5.setCell ⟨b, 2, none⟩ (.int .u64 (m.sq : Int))) b 75 (logV A2 (ps.length + 1) c2 bm m.sq begun) from HL6.out).frozen 3
  go_wp2_with fail
  go_ret
  have hL7 : Blk ((w5.setCell ⟨b, 2, none⟩ (.int .u64 (m.sq : Int))).setCell ⟨b, 3, none⟩ (.bool true)) b 75 (logV A2 (ps.length + 1) c2 bm m.sq true) := HL6.out.put 3 (.bool true)
  have hO6 := HO5.out.kept (grown_setCell w5 ⟨b, 2, none⟩ (.int .u64 (m.sq : Int))) (.inr (fun e => row_ne HL5.out HO5.out (by decide) e.symm))
  have hO7 := hO6.kept (grown_setCell _ ⟨b, 3, none⟩ (.bool true)) (.inr (fun e => row_ne HL6.out hO6 (by decide) e.symm))
  have hM6 := HM5.out.same (Below.heap_setCell w5 ⟨b, 2, none⟩ (.int .u64 (m.sq : Int)) bm (fun e => map_ne HL5.out HM5.out e.symm))
  have hM7 := hM6.same (Below.heap_setCell _ ⟨b, 3, none⟩ (.bool true) bm (fun e => map_ne HL6.out hM6 e.symm))
  refine ⟨rfl, ⟨A2, c2, hb0, hbm0, ?_, ?_, ?_, hsq⟩, (HB5.out.setCell (p := ⟨b, 2, none⟩) hb0 _).setCell (p := ⟨b, 3, none⟩) hb0 _⟩
  · rw [List.length_append]; exact hL7
  · rw [List.length_append, List.flatMap_append]; exact hO7
  · rw [List.length_append]; exact hM7
end
end Go.Proofs.Ytlfieiiegokejaa
