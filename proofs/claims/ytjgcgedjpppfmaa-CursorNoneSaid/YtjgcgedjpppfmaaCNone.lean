/- The calls of no reader. -/
import Derived.Test.YtjgcgedjpppfmaaCLive
import Derived.Test.YtjgcgedjpppfmaaWhole
namespace Go.Proofs.Ytjgcgedjpppfmaa
open Go.ChangeShapes Go.WideShapes Go.ChangeAt Go.RowKit
set_option linter.unusedVariables false
theorem cnil_Good (w : World) : Calls Try.prog 38 #[.pointer none] w fun e w' => e = .returned (.bool false) ∧ w = w' := by
  go_enter Try.func38, Try.ntmps38
  go_wp2_with fail
  go_ret
  exact ⟨rfl, rfl⟩
theorem cnil_Fault (w : World) : Calls Try.prog 36 #[.pointer none] w fun e w' => e = .returned (.agg #[.int .i64 19, .int .i64 0]) ∧ Below w.heap.size w w' := by
  have H : Hid ((Try.prog.info? 53).map (·.size) = some 2) := by unfold Hid; kernel_rfl
  have hat := fun w => fat_any 19 0 w
  rw [show failF (0, 0) 19 0 = (19, 0) from rfl] at hat
  have HAT := Lib.hid hat
  clear hat
  have HK := Lib.hid (Blk.new w 53 #[.int .i64 0, .int .i64 0])
  go_enter Try.func36, Try.ntmps36
  go_wp2_with fail
  refine (HAT.out _).mono ?_; rintro e w1 ⟨rfl, hb1⟩
  have HB1 := Lib.hid (((Below.refl w.heap.size w).alloc (Nat.le_refl _) _).trans (hb1.mono (by simp)))
  have HK1 := Lib.hid (HK.out.below hb1 HK.out.lt)
  clear hb1
  go_wp2_with (refine wpList_put_row rfl 53 (.tmp 2) (.tmp 5) rfl w.heap.size #[.int .i64 19, .int .i64 0] rfl rfl 53 _ HK1.out H.out rfl (by simp [Value.oneCell']) ?_; intro w3 hblk hgr)
  have hbz : Below w.heap.size w w3 := HB1.out.grown hgr HB1.out.size (fun k hk => by injection hk with hk; omega)
  refine bodyPost_ret (results_cell_row rfl _ _ w.heap.size 53 _ (0, 0) _ rfl hblk Try.underlying53 rfl H.out) rfl ⟨rfl, hbz⟩
theorem cnil_At (w : World) : Calls Try.prog 31 #[.pointer none] w fun e w' => e = .returned (.int .i64 0) ∧ w = w' := by
  go_enter Try.func31, Try.ntmps31
  go_wp2_with fail
  go_ret
  exact ⟨rfl, rfl⟩
theorem cnil_Left (w : World) : Calls Try.prog 37 #[.pointer none] w fun e w' => e = .returned (.int .i64 0) ∧ w = w' := by
  go_enter Try.func37, Try.ntmps37
  go_wp2_with fail
  go_ret
  exact ⟨rfl, rfl⟩
theorem cnil_Since (n : Int) (w : World) : Calls Try.prog 39 #[.pointer none, .int .i64 n] w fun e w' => e = .returned (.slice none 0 0) ∧ w = w' := by
  go_enter Try.func39, Try.ntmps39
  go_wp2_with fail
  go_ret
  exact ⟨rfl, rfl⟩
theorem cnil_Part (n : Int) (w : World) : Calls Try.prog 41 #[.pointer none, .int .i64 n] w fun e w' => e = .returned (.pointer none) ∧ w = w' := by
  go_enter Try.func41, Try.ntmps41
  go_wp2_with fail
  go_ret
  exact ⟨rfl, rfl⟩
theorem cnil_Skip (n : Int) (w : World) : Calls Try.prog 30 #[.pointer none, .int .i64 n] w fun e w' => e = .returned (.bool false) ∧ w = w' := by
  go_enter Try.func30, Try.ntmps30
  go_wp2_with fail
  refine (cnil_Good _).mono ?_; rintro e w1 ⟨rfl, rfl⟩
  go_wp2_with fail
  go_ret
  exact ⟨rfl, rfl⟩
theorem cnil_Fail (c a : Int) (w : World) : Calls Try.prog 32 #[.pointer none, .int .i64 c, .int .i64 a] w fun e w' => e = .returned (.tuple #[]) ∧ w = w' := by
  go_enter Try.func32, Try.ntmps32
  go_wp2_with fail
  refine (cnil_Good _).mono ?_; rintro e w1 ⟨rfl, rfl⟩
  go_wp2_with fail
  go_end0
  exact ⟨rfl, rfl⟩
theorem cnil_Take (n : Int) (w : World) : Calls Try.prog 34 #[.pointer none, .int .i64 n] w fun e w' => e = .returned (.slice none 0 0) ∧ w = w' := by
  go_enter Try.func34, Try.ntmps34
  go_wp2_with fail
  refine (cnil_Skip _ _).mono ?_; rintro e w1 ⟨rfl, rfl⟩
  go_wp2_with fail
  go_ret
  exact ⟨rfl, rfl⟩
theorem cnil_Byte (w : World) : Calls Try.prog 35 #[.pointer none] w fun e w' => e = .returned (.int .u8 0) ∧ w = w' := by
  go_enter Try.func35, Try.ntmps35
  go_wp2_with fail
  refine (cnil_Skip _ _).mono ?_; rintro e w1 ⟨rfl, rfl⟩
  go_wp2_with fail
  go_ret
  exact ⟨rfl, rfl⟩
theorem cnil_End (w : World) : Calls Try.prog 33 #[.pointer none] w fun e w' => e = .returned (.tuple #[]) ∧ w = w' := by
  go_enter Try.func33, Try.ntmps33
  go_wp2_with fail
  refine (cnil_Left _).mono ?_; rintro e w1 ⟨rfl, rfl⟩
  go_wp2_with fail
  go_end0
  exact ⟨rfl, rfl⟩

set_option maxRecDepth 100000 in
set_option maxHeartbeats 4000000 in
theorem cursorNone_any (A0 : Option Addr) (n0 c0 : Nat) (b : List UInt8) (n : Int) (w : World) (hb : rpU8.sl w (lt w.heap.size) A0 n0 c0 b) (n0' : -9223372036854775808 ≤ n) (n1' : n ≤ 9223372036854775807) :
    Calls Try.prog 10 #[.slice A0 n0 c0, .int .i64 n] w fun e w' => e = .returned (.bool true) ∧ Below w.heap.size w w' := by
  obtain ⟨hlen0, hnc0, hcm0⟩ := Rp.sl_len hb
  unfold maxLen at hcm0
  subst hlen0
  have HB := Lib.hid hb
  have hlive := fun w' => clive_any w'
  have HLIVE := Lib.hid hlive
  clear hb hlive
  by_cases hbig : 300 < b.length
  · have hd : decide ((300 : Int) < (b.length : Int)) = true := by simp; omega
    go_enter Try.func10, Try.ntmps10
    go_wp2_with fail
    refine (HLIVE.out _).mono ?_; rintro e w1 ⟨rfl, hb1⟩
    go_wp2_with fail
    go_ret
    exact ⟨rfl, hb1⟩
  have hd : decide ((300 : Int) < (b.length : Int)) = false := by simp; omega
  go_enter Try.func10, Try.ntmps10
  go_wp2_with fail
  refine (cnil_Fail _ _ _).mono ?_; rintro e w1 ⟨rfl, rfl⟩
  go_wp2_with fail
  refine (cnil_End _).mono ?_; rintro e w1 ⟨rfl, rfl⟩
  go_wp2_with fail
  refine (cnil_Byte _).mono ?_; rintro e w1 ⟨rfl, rfl⟩
  go_wp2_with fail
  refine (cnil_Take _ _).mono ?_; rintro e w1 ⟨rfl, rfl⟩
  go_wp2_with fail
  refine (cnil_Skip _ _).mono ?_; rintro e w1 ⟨rfl, rfl⟩
  go_wp2_with fail
  refine (cnil_At _).mono ?_; rintro e w1 ⟨rfl, rfl⟩
  go_wp2_with fail
  refine (cnil_Left _).mono ?_; rintro e w1 ⟨rfl, rfl⟩
  go_wp2_with fail
  refine (cnil_Good _).mono ?_; rintro e w1 ⟨rfl, rfl⟩
  go_wp2_with fail
  refine (cnil_Part _ _).mono ?_; rintro e w1 ⟨rfl, rfl⟩
  go_wp2_with fail
  refine (cnil_Since _ _).mono ?_; rintro e w1 ⟨rfl, rfl⟩
  go_wp2_with fail
  refine (cnil_Fault _).mono ?_; rintro e w0 ⟨rfl, hb0⟩
  have HB0 := Lib.hid hb0
  have hz0 := hb0.size
  clear hb0
  go_wp2_with fail
  refine (cnew_any (Rp.sl_below HB.out HB0.out (fun k hk => hk)) (fun k hk => Nat.lt_of_lt_of_le hk hz0)).mono ?_; rintro e w1 ⟨rfl, hr1, hb1⟩
  have HR1 := Lib.hid hr1
  have HB1 := Lib.hid (HB0.out.trans (hb1.mono hz0))
  clear hr1 hb1
  generalize hgen : w0.heap.size = g at *
  have hgw : w.heap.size ≤ g := by omega
  clear hgen
  have e2 : skipF b.length 0 (0, 0) (b.length : Int) = (b.length, (0, 0), true) := by rw [skipF_ok rfl (by omega) (by omega)]; simp
  have E2 := Lib.hid e2
  clear e2
  go_wp2_with fail
  refine (ctake_at HR1.out (b.length : Int) (by omega) (by omega) (by omega)).mono ?_; rintro e w2 ⟨A2, n2, c2, rfl, ho2, hr2, hch2⟩
  rw [E2.out] at hr2
  have hn2 : (takeB b 0 (0, 0) (b.length : Int)).length = n2 := by have := ho2.1; simpa using this
  have hn2b : n2 ≤ 300 := by rw [← hn2]; unfold takeB; split <;> simp [cutB]; omega
  have HN2 := Lib.hid hn2
  have HO2 := Lib.hid ho2
  have HR2 := Lib.hid hr2
  have HB2 := Lib.hid (HB1.out.trans (hch2.below HB1.out.size (fun k hk => by have : k = g := hk; omega)))
  have hgl2 := hr2.lt
  clear hr2 hch2 hn2 ho2
  go_wp2_with fail
  have hg2 : some g ≠ (Value.slice A2 n2 c2).ownBlock := by obtain ⟨_, _, hbk, _⟩ := HR2.out; exact Pen.ne' hbk HO2.out (by decide)
  have HG2 := Lib.hid hg2
  clear hg2
  go_loopw [8] (fun i wq => ∃ (q : Nat) (bs : List UInt8), q ≤ n2 ∧ i = .int .i64 q ∧ bs.length = n2 ∧ Hid (wq.ownsRow w1.heap.size 5 1 (.slice A2 n2 c2) n2 (bs.map bv)) ∧ Hid (Rd wq (lt w.heap.size) g b b.length (0, 0)) ∧ Below w.heap.size w wq) (fun i _ => n2 - (intOf i).toNat)
  case atStart => exact ⟨0, _, by omega, rfl, HN2.out, HO2, HR2, HB2.out⟩
  case round =>
    obtain ⟨q, bs, hq, rfl, hbs, hoq, hrq, hbq⟩ := hrel
    by_cases hqn : q < n2
    · have hgq : some g ≠ (Value.slice A2 n2 c2).ownBlock := HG2.out
      obtain ⟨g2, rfl, hg, hgl, hfr, hcells, hput⟩ := own_block hoq.out (by omega)
      have hgg : g ≠ g2 := fun e => hgq (congrArg some e)
      have hqb : q < bs.length := by omega
      have hy : bs[q]? = some bs[q] := List.getElem?_eq_getElem hqb
      generalize bs[q] = y at hy
      have hcl : wr.cell? ⟨g2, q, none⟩ = some (.int .u8 (y.toNat : Int)) := hcells q (bv y) (by rw [List.getElem?_map, hy]; rfl)
      have hfq := hfr q
      have HPUT := Lib.hid (fun u => hput q u hqn)
      have hdq : decide ((q : Int) < (n2 : Int)) = true := by simp; omega
      have hw1z := HB1.out.size
      have HGG := Lib.hid hgg
      clear hput hcells hfr hgq hgg
      go_wp2_with fail
      go_roundw
      case rel =>
        have hv : ((y.toNat : Int) + 1) % 256 = ((y + 1 : UInt8).toNat : Int) := by rw [UInt8.toNat_add]; simp
        rw [hv]
        refine ⟨q + 1, bs.set q (y + 1), by omega, by go_num, by rw [List.length_set]; exact hbs, ?_, ?_, hbq.setCell (show w.heap.size ≤ g2 by omega) _⟩
        · have h1 := HPUT.out (bv (y + 1))
          rw [← List.map_set] at h1
          exact Lib.hid h1
        · refine Lib.hid (hrq.out.keep (fun k hk => Below.heap_setCell _ _ _ _ ?_) (by simp [World.setCell]))
          rcases hk with rfl | hk
          · exact HGG.out
          · have : k < w.heap.size := hk
            show k ≠ g2
            omega
      case measure => simp [intOf]; omega
    · obtain rfl : q = n2 := by omega
      have hdq : decide ((q : Int) < (q : Int)) = false := by simp
      have HBQ := Lib.hid hbq
      have hzq := hbq.size
      clear hbq
      go_wp2_with fail
      refine (csince_at hrq.out 0 (by decide) (by decide) (by omega)).mono ?_; rintro e w3 ⟨A3, n3, c3, rfl, ho3, hb3⟩
      have hn3 : b.length = n3 := by have := ho3.1; simpa using this
      have hn3b : n3 ≤ 300 := by omega
      have HN3 := Lib.hid hn3
      have HO3 := Lib.hid ho3
      have HR3 := Lib.hid (hrq.out.below hb3)
      have HB3 := Lib.hid (HBQ.out.trans (hb3.mono hzq))
      have hg3 : some g ≠ (Value.slice A3 n3 c3).ownBlock := by obtain ⟨_, _, hbk, _⟩ := HR3.out; exact Pen.ne' hbk HO3.out (by decide)
      have HG3 := Lib.hid hg3
      obtain ⟨ws, hws⟩ : ∃ ws, ws = wr := ⟨_, rfl⟩
      rw [← hws] at HO3 hzq HBQ
      clear hg3 hn3 ho3 hb3 hrq hoq
      go_wp2_with fail
      go_loopw [10] (fun i wq => ∃ (q : Nat) (bs : List UInt8), q ≤ n3 ∧ i = .int .i64 q ∧ bs.length = n3 ∧ Hid (wq.ownsRow ws.heap.size 5 1 (.slice A3 n3 c3) n3 (bs.map bv)) ∧ Hid (Rd wq (lt w.heap.size) g b b.length (0, 0)) ∧ Below w.heap.size w wq) (fun i _ => n3 - (intOf i).toNat)
      case atStart => exact ⟨0, _, by omega, rfl, (by simp; exact HN3.out), HO3, HR3, HB3.out⟩
      case round =>
        obtain ⟨q, bs, hq, rfl, hbs, hoq, hrq, hbq⟩ := hrel
        by_cases hqn : q < n3
        · have hgq : some g ≠ (Value.slice A3 n3 c3).ownBlock := HG3.out
          obtain ⟨g2, rfl, hg, hgl, hfr, hcells, hput⟩ := own_block hoq.out (by omega)
          have hgg : g ≠ g2 := fun e => hgq (congrArg some e)
          have hqb : q < bs.length := by omega
          have hy : bs[q]? = some bs[q] := List.getElem?_eq_getElem hqb
          generalize bs[q] = y at hy
          have hcl : wr.cell? ⟨g2, q, none⟩ = some (.int .u8 (y.toNat : Int)) := hcells q (bv y) (by rw [List.getElem?_map, hy]; rfl)
          have hfq := hfr q
          have HPUT := Lib.hid (fun u => hput q u hqn)
          have hdq : decide ((q : Int) < (n3 : Int)) = true := by simp; omega
          have hw1z := hzq
          have HGG := Lib.hid hgg
          clear hput hcells hfr hgq hgg
          go_wp2_with fail
          go_roundw
          case rel =>
            have hv : ((y.toNat : Int) + 1) % 256 = ((y + 1 : UInt8).toNat : Int) := by rw [UInt8.toNat_add]; simp
            rw [hv]
            refine ⟨q + 1, bs.set q (y + 1), by omega, by go_num, by rw [List.length_set]; exact hbs, ?_, ?_, hbq.setCell (show w.heap.size ≤ g2 by omega) _⟩
            · have h1 := HPUT.out (bv (y + 1))
              rw [← List.map_set] at h1
              exact Lib.hid h1
            · refine Lib.hid (hrq.out.keep (fun k hk => Below.heap_setCell _ _ _ _ ?_) (by simp [World.setCell]))
              rcases hk with rfl | hk
              · exact HGG.out
              · have : k < w.heap.size := hk
                show k ≠ g2
                omega
          case measure => simp [intOf]; omega
        · obtain rfl : q = n3 := by omega
          have hdq : decide ((q : Int) < (q : Int)) = false := by simp
          have HBY := Lib.hid hbq
          clear hbq
          go_wp2_with fail
          refine (csince_at hrq.out 0 (by decide) (by decide) (by omega)).mono ?_; rintro e w4 ⟨A4, n4, c4, rfl, ho4, hb4⟩
          rw [if_pos ⟨Int.le_refl _, by omega⟩, show ((0 : Int).toNat) = 0 from rfl, List.drop_zero, List.take_length] at ho4
          have HO4 := Lib.hid ho4
          have HB4 := Lib.hid (HBY.out.trans (hb4.mono HBY.out.size))
          clear ho4 hb4
          go_wp2_with fail
          have hs8 := same_any _ _ _ _ _ _ _ _ _ _ _ (own_bytes HO4.out) (Rp.sl_below HB.out HB4.out (fun k hk => hk))
          rw [beq_self_eq_true] at hs8
          refine hs8.mono ?_; rintro e w8 ⟨rfl, rfl⟩
          clear hs8
          go_wp2_with fail
          refine (HLIVE.out _).mono ?_; rintro e w10 ⟨rfl, hb10⟩
          go_wp2_with fail
          go_ret
          exact ⟨rfl, HB4.out.trans (hb10.mono HB4.out.size)⟩
end Go.Proofs.Ytjgcgedjpppfmaa
