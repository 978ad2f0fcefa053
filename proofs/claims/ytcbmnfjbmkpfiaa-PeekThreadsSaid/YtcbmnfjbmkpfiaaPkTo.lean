/- The document's With. -/
import Derived.Test.YtcbmnfjbmkpfiaaPkTl
namespace Go.Proofs.Ytcbmnfjbmkpfiaa
open Go.ChangeShapes Go.WideShapes Go.ChangeAt Go.RowKit
set_option linter.unusedVariables false
section
variable {D0 : Dom} {hi n c s xn c5 : Nat} {A A5 : Option Addr} {l : List Lnk} {xl : List Nat} {w : World}
set_option maxRecDepth 100000 in
set_option maxHeartbeats 8000000 in
theorem rwith_any (ht : TLs D0 hi w A n c l) (h0 : ∀ k, D0 k → k < w.heap.size) (hn : n ≤ 90000) (hx : rpU64.sl w (Tb T64 D0 w) A5 xn c5 xl) (hs : s ≤ 18446744073709551615) :
    Calls Try.prog 42 #[.slice A n c, .agg (lkV s A5 xn c5)] w fun e w' => ∃ A' n' c', e = .returned (.slice A' n' c') ∧ OLd D0 w' w.heap.size A' n' c' (withL l (s, xl)) ∧ Below w.heap.size w w' := by
  have hb1 := below1 w (.cells (lkV s A5 xn c5) 57)
  have HB1 := Lib.hid hb1
  have K1 := Lib.hid (blk11 w 57 (lkV s A5 xn c5))
  have HT := Lib.hid ht
  have HD0 := Lib.hid h0
  have HT1 := Lib.hid (ht.below h0 hb1)
  have HN := Lib.hid ht.len
  have HX := Lib.hid hx
  obtain ⟨gx, hgx⟩ : ∃ gx, gx = w.heap.size := ⟨_, rfl⟩
  rw [← hgx] at K1
  obtain ⟨base, hbase⟩ : ∃ base, base = (w.alloc (.cells (lkV s A5 xn c5) 57)).heap.size := ⟨_, rfl⟩
  have HGX : Hid (gx < base) := by show _ < _; rw [hgx, hbase]; simp
  have HBW : Hid (w.heap.size ≤ base) := by have := HGX.out; show _ ≤ _; omega
  have HD1 : Hid (∀ k, D0 k → k < base) := fun k hk => Nat.lt_of_lt_of_le (h0 k hk) HBW.out
  obtain ⟨R, hR⟩ : ∃ R, rfI l s = R := ⟨_, rfl⟩
  have HR := Lib.hid hR
  have HFI := Lib.hid (rfind_any (s := s) (HT1.out.sl (fun k hk => Nat.lt_of_lt_of_le (h0 k hk) hb1.size)) (fun k hk => hk) (by omega) hs)
  rw [hR] at HFI
  have HBASE := Lib.hid hbase
  have HXU : Hid (∀ u, Below w.heap.size w u → rpU64.sl u (Tb T64 D0 u) A5 xn c5 xl) := fun u hu => tb_below hx hu
  have HTU : Hid (∀ u, Below w.heap.size w u → TLs D0 hi u A n c l) := fun u hu => ht.below h0 hu
  clear ht h0 hx hb1 hR
  go_enter Try.func42, Try.ntmps42
  go_upto_region 1 with (fail)
  rw [← hgx]
  clear hgx hbase
  generalize World.alloc w _ = w1 at *
  have k0 := (show Blk w1 gx 57 (lkV s A5 xn c5) from K1.out).cell 0
  go_wp2_with fail
  refine HFI.out.mono ?_; rintro e w2 ⟨rfl, hb2⟩
  have K2 := Lib.hid (keepB (show Blk w1 gx 57 (lkV s A5 xn c5) from K1.out) hb2)
  have HB2 := Lib.hid (stepB HB1.out hb2)
  have BB2 : Hid (Below base w1 w2) := hb2.mono (by rw [HBASE.out]; exact Nat.le_refl _)
  clear hb2 k0
  go_wp2_with fail
  go_loopw [5, 7, 8] (fun v5 v7 v8 wr => ∃ (i no : Nat) (Ao : Option Addr) (co : Nat), i ≤ n ∧ no ≤ i + 1 ∧ v5 = .slice Ao no co ∧ v7 = .bool (wDone l (s, xl) i) ∧ v8 = .int .i64 (i : Int) ∧ Hid (OLd D0 wr base Ao no co (wPart l (s, xl) i)) ∧ Hid (Blk wr gx 57 (lkV s A5 xn c5)) ∧ Hid (Below base w1 wr)) (fun _ _ v8 _ => n - (intOf v8).toNat)
  case atStart =>
    refine ⟨0, 0, none, 0, by omega, by omega, rfl, ?_, rfl, ?_, K2.out, BB2.out⟩
    · unfold wDone
      split <;> rfl
    · show OLd _ _ _ _ _ _ _
      rw [wPart_zero]
      exact OL.nil _ _ _ _ _ _
  case round =>
    clear K2 BB2 HB2 K1 HFI
    obtain ⟨i, no, Ao, co, hi', hno, rfl, rfl, rfl, hol, hkx, hbel⟩ := hrel
    have hbw : Below w.heap.size w wr := HB1.out.trans (hbel.out.mono HBW.out)
    have HBR := Lib.hid hbw
    obtain ⟨dn, hdn⟩ : ∃ dn, wDone l (s, xl) i = dn := ⟨_, rfl⟩
    rw [hdn]
    have HDN := Lib.hid hdn
    clear hdn
    by_cases hin : i < n
    case neg =>
      obtain rfl : i = n := by omega
      have hd : decide ((i : Int) < (i : Int)) = false := by simp
      have HEND : Hid (withL l (s, xl) = if dn then wPart l (s, xl) i else wPart l (s, xl) i ++ [(s, xl)]) := by
        have h := wPart_end l (s, xl)
        rw [HN.out, HDN.out] at h
        exact h
      cases dn
      case true =>
        have HO : Hid (OLd D0 wr base Ao no co (withL l (s, xl))) := by
          show OLd _ _ _ _ _ _ _
          rw [HEND.out]; exact hol.out
        go_wp2_with fail
        go_ret
        exact ⟨Ao, no, co, rfl, OL.mono HO.out HBW.out, HBR.out⟩
      case false =>
        have x0 := (show Blk wr gx 57 (lkV s A5 xn c5) from hkx.out).cell 0
        have x1 := (show Blk wr gx 57 (lkV s A5 xn c5) from hkx.out).cell 1
        have HZ : Hid (base ≤ wr.heap.size) := by rw [HBASE.out]; exact hbel.out.size
        obtain ⟨valsE, p1, p2, p3, p4⟩ := link_push hol.out HZ.out HD1.out (HXU.out _ HBR.out) hs
        have P1 := Lib.hid p1
        have P2 := Lib.hid p2
        have P3 := Lib.hid p3
        have P4 := Lib.hid p4
        clear p1 p2 p3 p4
        go_wp2_with
          (at_builtin; refine wpList_app rfl (.tmp 55) (.tmp 57) _ rfl elemLink (by rfl) P1.out (by rfl) P2.out (by unfold maxLen; omega) (by omega) P3.out ?_; intro AE cE wE ho hg _
           obtain ⟨q1, q2, q3⟩ := P4.out AE cE wE ho hg
           have OLE := Lib.hid q1
           have BLE := Lib.hid (hbel.out.trans q2)
           have KXE := Lib.hid (show Blk wE gx 57 (lkV s A5 xn c5) from Blk.below hkx.out q2 HGX.out)
           clear ho hg q1 q2 q3 P1 P2 P3 P4)
        have HO : Hid (OLd D0 wE base AE (no + 1) cE (withL l (s, xl))) := by
          show OLd _ _ _ _ _ _ _
          rw [HEND.out]; exact OLE.out
        go_ret
        exact ⟨AE, no + 1, cE, rfl, OL.mono HO.out HBW.out, HB1.out.trans (BLE.out.mono HBW.out)⟩
    case pos =>
      have hd : decide ((i : Int) < (n : Int)) = true := by simp; omega
      have hiI : (0 : Int) ≤ (i : Int) := by omega
      have hiI2 : (i : Int) < (n : Int) := by omega
      obtain ⟨bo, off, y, A4, c4, rfl, hbl, hy, q0, q1, hyr, hy64⟩ := TLs.at HT.out HD0.out hin
      obtain ⟨ys, yl⟩ := y
      simp only at q0 q1 hyr hy64
      have HY := Lib.hid hy
      obtain ⟨yn, hyn⟩ : ∃ yn, yn = yl.length := ⟨_, rfl⟩
      rw [← hyn] at q1 hyr
      have HYU : Hid (∀ u, Below w.heap.size w u → u.cell? ⟨bo, off + i * 2, none⟩ = some (.int .u64 (ys : Int)) ∧ u.cell? ⟨bo, off + i * 2 + 1, none⟩ = some (.slice A4 yn c4) ∧ rpU64.sl u (Tb T64 D0 u) A4 yn c4 yl) := fun u hu =>
        ⟨(hu.cell (p := ⟨bo, off + i * 2, none⟩) hbl).trans q0, (hu.cell (p := ⟨bo, off + i * 2 + 1, none⟩) hbl).trans q1, tb_below hyr hu⟩
      have HBL := Lib.hid (Nat.lt_of_lt_of_le hbl hbw.size)
      clear q0 q1 hbl
      have q0 := (HYU.out _ hbw).1
      have hbl := HBL.out
      have hx0 := (show Blk wr gx 57 (lkV s A5 xn c5) from hkx.out).cell 0
      clear hyr hy hyn hbw
      go_upto_region 7 with (fail)
      obtain ⟨cnd, hcnd⟩ : ∃ cnd : Bool, cnd = (decide (¬ idxOf l s < l.length) && decide (i = gtOf l s)) := ⟨_, rfl⟩
      have HCN := Lib.hid hcnd
      clear hcnd
      go_cut [34] (fun v34 wx => v34 = .bool cnd ∧ Hid (Below wr.heap.size wr wx))
      case first =>
        have m0 : ∀ u : Gr wr.heap.size wr, u.val.cell? ⟨bo, off + i * 2, none⟩ = some (.int .u64 (ys : Int)) := fun u => (u.is.cell (p := ⟨bo, off + i * 2, none⟩) hbl).trans q0
        have m1 : ∀ u : Gr wr.heap.size wr, u.val.cell? ⟨gx, 0, none⟩ = some (.int .u64 (s : Int)) := fun u => (keepB (show Blk wr gx 57 (lkV s A5 xn c5) from hkx.out) u.is).cell 0
        by_cases hf : idxOf l s < l.length
        case pos =>
          obtain rfl : cnd = false := by rw [HCN.out, decide_eq_false (by simpa using hf)]; rfl
          have hR0 : decide (R < 0) = false := by rw [← HR.out]; unfold rfI; rw [if_pos hf]; simp
          refine wp_region_grow (by kernel_rfl) (by kernel_rfl) wr.heap.size ?_
          repeat (first | go_big_quiet_step (fail) | quiet_step (fail))
          refine wpQuiet_nil ?_
          rintro w4 ⟨⟨_, hb4⟩, rfl⟩
          go_wp2_with fail
          go_meet
          exact ⟨by first | rfl | simp, hb4⟩
        case neg =>
          have hR0 : decide (R < 0) = true := by rw [← HR.out]; unfold rfI; rw [if_neg hf]; decide
          have hdn : dn = decide (gtOf l s < i) := by rw [← HDN.out]; unfold wDone; rw [if_neg hf]
          by_cases h3 : gtOf l s < i
          case pos =>
            have hdt : dn = true := by rw [hdn]; exact decide_eq_true h3
            obtain rfl : cnd = false := by rw [HCN.out, decide_eq_false (show ¬ i = gtOf l s by omega), Bool.and_false]
            subst hdt
            clear hdn
            refine wp_region_grow (by kernel_rfl) (by kernel_rfl) wr.heap.size ?_
            repeat (first | go_big_quiet_step (fail) | quiet_step (fail))
            refine wpQuiet_nil ?_
            rintro w4 ⟨⟨_, hb4⟩, rfl⟩
            go_wp2_with fail
            go_meet
            exact ⟨by first | rfl | simp, hb4⟩
          case neg =>
            have hdt : dn = false := by rw [hdn]; exact decide_eq_false h3
            subst hdt
            clear hdn
            have hgt : cnd = decide (s < ys) := by
              rw [HCN.out, decide_eq_true hf, Bool.true_and]
              by_cases h4 : i = gtOf l s
              · rw [decide_eq_true h4, decide_eq_true (gt_at HY.out h4)]
              · rw [decide_eq_false h4, decide_eq_false (gt_not HY.out (by omega))]
            have hgt2 : decide ((ys : Int) > (s : Int)) = cnd := by
              rw [hgt]
              by_cases h4 : s < ys
              · rw [decide_eq_true h4]; exact decide_eq_true (by omega)
              · rw [decide_eq_false h4]; exact decide_eq_false (by omega)
            have hgt3 : decide (s < ys) = cnd := hgt.symm
            clear hgt
            refine wp_region_grow (by kernel_rfl) (by kernel_rfl) wr.heap.size ?_
            repeat (first | go_big_quiet_step (fail) | quiet_step (fail))
            refine wpQuiet_nil ?_
            rintro w4 ⟨⟨_, hb4⟩, rfl⟩
            go_wp2_with fail
            go_meet
            exact ⟨by first | rfl | simp [hgt3] | simp [hgt2], hb4⟩
      case rest =>
      obtain ⟨rfl, HB4⟩ := hcut
      obtain ⟨w4, hw4⟩ : ∃ w4, w4 = wc := ⟨_, rfl⟩
      subst hw4
      have X4 := Lib.hid (keepB (show Blk wr gx 57 (lkV s A5 xn c5) from hkx.out) HB4.out)
      have O4 := Lib.hid (OL.below hol.out HB4.out)
      have HBR4 := Lib.hid (stepB HBR.out HB4.out)
      have BB4 := Lib.hid (hbel.out.trans (HB4.out.mono (show base ≤ wr.heap.size by rw [HBASE.out]; exact hbel.out.size)))
      clear hx0 q0 hol hkx hbel HB4
      have x0 := (show Blk w4 gx 57 (lkV s A5 xn c5) from X4.out).cell 0
      have x1 := (show Blk w4 gx 57 (lkV s A5 xn c5) from X4.out).cell 1
      have q0 := (HYU.out _ HBR4.out).1
      have q1 := (HYU.out _ HBR4.out).2.1
      cases cnd
      case true =>
        have hc := HCN.out.symm
        rw [Bool.and_eq_true, decide_eq_true_iff, decide_eq_true_iff] at hc
        have HNF := Lib.hid hc.1
        have HIG := Lib.hid hc.2
        have hRm : R = -1 := by rw [← HR.out]; unfold rfI; rw [if_neg hc.1]
        have heq : ((i : Int) == R) = false := by rw [Bool.eq_false_iff]; intro h; have := beq_iff_eq.1 h; omega
        clear hc hRm
        have HZF : Hid (base ≤ w4.heap.size) := by show base ≤ _; rw [HBASE.out]; exact BB4.out.size
        obtain ⟨valsF, p1, p2, p3, p4⟩ := link_push O4.out HZF.out HD1.out (HXU.out _ HBR4.out) hs
        have P1 := Lib.hid p1
        have P2 := Lib.hid p2
        have P3 := Lib.hid p3
        have P4 := Lib.hid p4
        clear p1 p2 p3 p4
        go_upto_region 9 with
          (at_builtin; refine wpList_app rfl (.tmp 35) (.tmp 37) _ rfl elemLink (by rfl) P1.out (by rfl) P2.out (by unfold maxLen; omega) (by omega) P3.out ?_; intro AF cF w5 ho hg _
           obtain ⟨q1, q2, q3⟩ := P4.out AF cF w5 ho hg
           have OLF := Lib.hid q1
           have BLF := Lib.hid (BB4.out.trans q2)
           have KXF := Lib.hid (show Blk w5 gx 57 (lkV s A5 xn c5) from Blk.below X4.out q2 HGX.out)
           have BWF := Lib.hid (HB1.out.trans (BLF.out.mono HBW.out))
           clear ho hg q1 q2 q3 P1 P2 P3 P4)
        clear x0 x1 q0 q1
        have q0 := (HYU.out _ BWF.out).1
        have q1 := (HYU.out _ BWF.out).2.1
        have HZG : Hid (base ≤ w5.heap.size) := by show base ≤ _; rw [HBASE.out]; exact BLF.out.size
        obtain ⟨valsG, p1, p2, p3, p4⟩ := link_push OLF.out HZG.out HD1.out (HYU.out _ BWF.out).2.2 hy64
        have P1 := Lib.hid p1
        have P2 := Lib.hid p2
        have P3 := Lib.hid p3
        have P4 := Lib.hid p4
        clear p1 p2 p3 p4
        go_wp2_with
          (at_builtin; refine wpList_app rfl (.tmp 46) (.tmp 51) _ rfl elemLink (by rfl) P1.out (by rfl) P2.out (by unfold maxLen; omega) (by omega) P3.out ?_; intro AG cG w6 ho hg _
           obtain ⟨q1, q2, q3⟩ := P4.out AG cG w6 ho hg
           have OLG := Lib.hid q1
           have BLG := Lib.hid (BLF.out.trans q2)
           have KXG := Lib.hid (show Blk w6 gx 57 (lkV s A5 xn c5) from Blk.below KXF.out q2 HGX.out)
           have BWG := Lib.hid (HB1.out.trans (BLG.out.mono HBW.out))
           clear ho hg q1 q2 q3 P1 P2 P3 P4)
        have HE : Hid (OLd D0 w6 base AG (no + 1 + 1) cG (wPart l (s, xl) (i + 1))) := by
          show OLd _ _ _ _ _ _ _
          rw [wPart_put HNF.out HY.out HIG.out]; exact OLG.out
        have hdd : wDone l (s, xl) (i + 1) = true := by unfold wDone; rw [if_neg HNF.out]; exact decide_eq_true (by have := HIG.out; show gtOf l s < i + 1; omega)
        have hnoi : no ≤ i := by
          have h1 := O4.out.len
          unfold wPart at h1
          rw [if_neg HNF.out, if_pos (Nat.le_of_eq HIG.out), List.length_take] at h1
          omega
        go_roundw
        case rel => exact ⟨i + 1, no + 1 + 1, AG, cG, by omega, by omega, rfl, by rw [hdd], by go_num, HE, KXG, BLG⟩
        case measure => simp [intOf]; omega
      case false =>
        by_cases hiR : (i : Int) = R
        case pos =>
          have hfi : idxOf l s < l.length ∧ i = idxOf l s := by
            have h := HR.out
            unfold rfI at h
            split at h
            · exact ⟨by assumption, by omega⟩
            · omega
          have HFI2 := Lib.hid hfi
          have heq : ((i : Int) == R) = true := by rw [hiR]; simp
          clear hfi hiR
          have HZF : Hid (base ≤ w4.heap.size) := by show base ≤ _; rw [HBASE.out]; exact BB4.out.size
          obtain ⟨valsF, p1, p2, p3, p4⟩ := link_push O4.out HZF.out HD1.out (HXU.out _ HBR4.out) hs
          have P1 := Lib.hid p1
          have P2 := Lib.hid p2
          have P3 := Lib.hid p3
          have P4 := Lib.hid p4
          clear p1 p2 p3 p4
          go_wp2_with
            (at_builtin; refine wpList_app rfl (.tmp 42) (.tmp 44) _ rfl elemLink (by rfl) P1.out (by rfl) P2.out (by unfold maxLen; omega) (by omega) P3.out ?_; intro AF cF w5 ho hg _
             obtain ⟨q1, q2, q3⟩ := P4.out AF cF w5 ho hg
             have OLF := Lib.hid q1
             have BLF := Lib.hid (BB4.out.trans q2)
             have KXF := Lib.hid (show Blk w5 gx 57 (lkV s A5 xn c5) from Blk.below X4.out q2 HGX.out)
             have BWF := Lib.hid (HB1.out.trans (BLF.out.mono HBW.out))
             clear ho hg q1 q2 q3 P1 P2 P3 P4)
          have HE : Hid (OLd D0 w5 base AF (no + 1) cF (wPart l (s, xl) (i + 1))) := by
            show OLd _ _ _ _ _ _ _
            rw [wPart_found HFI2.out.1 HY.out, if_pos HFI2.out.2]; exact OLF.out
          have hdd : wDone l (s, xl) (i + 1) = true := by unfold wDone; rw [if_pos HFI2.out.1]; exact decide_eq_true (by have := HFI2.out.2; show idxOf l s < i + 1; omega)
          go_roundw
          case rel => exact ⟨i + 1, no + 1, AF, cF, by omega, by omega, rfl, by rw [hdd], by go_num, HE, KXF, BLF⟩
          case measure => simp [intOf]; omega
        case neg =>
          have heq : ((i : Int) == R) = false := by rw [Bool.eq_false_iff]; intro h; exact hiR (beq_iff_eq.1 h)
          have HIR := Lib.hid hiR
          clear hiR
          have HZF : Hid (base ≤ w4.heap.size) := by show base ≤ _; rw [HBASE.out]; exact BB4.out.size
          obtain ⟨valsF, p1, p2, p3, p4⟩ := link_push O4.out HZF.out HD1.out (HYU.out _ HBR4.out).2.2 hy64
          have P1 := Lib.hid p1
          have P2 := Lib.hid p2
          have P3 := Lib.hid p3
          have P4 := Lib.hid p4
          clear p1 p2 p3 p4
          go_wp2_with
            (at_builtin; refine wpList_app rfl (.tmp 46) (.tmp 51) _ rfl elemLink (by rfl) P1.out (by rfl) P2.out (by unfold maxLen; omega) (by omega) P3.out ?_; intro AF cF w5 ho hg _
             obtain ⟨q1, q2, q3⟩ := P4.out AF cF w5 ho hg
             have OLF := Lib.hid q1
             have BLF := Lib.hid (BB4.out.trans q2)
             have KXF := Lib.hid (show Blk w5 gx 57 (lkV s A5 xn c5) from Blk.below X4.out q2 HGX.out)
             have BWF := Lib.hid (HB1.out.trans (BLF.out.mono HBW.out))
             clear ho hg q1 q2 q3 P1 P2 P3 P4)
          have hcf : (idxOf l s < l.length ∧ i ≠ idxOf l s) ∨ (¬ idxOf l s < l.length ∧ i ≠ gtOf l s) := by
            by_cases hf : idxOf l s < l.length
            · refine .inl ⟨hf, fun h => HIR.out ?_⟩
              rw [← HR.out]; unfold rfI; rw [if_pos hf, h]
            · refine .inr ⟨hf, fun h => ?_⟩
              have h2 := HCN.out
              rw [decide_eq_true hf, decide_eq_true h] at h2
              cases h2
          have HE : Hid (OLd D0 w5 base AF (no + 1) cF (wPart l (s, xl) (i + 1))) := by
            show OLd _ _ _ _ _ _ _
            rcases hcf with ⟨h1, h2⟩ | ⟨h1, h2⟩
            · rw [wPart_found h1 HY.out, if_neg h2]; exact OLF.out
            · rw [wPart_go h1 HY.out h2]; exact OLF.out
          have hdd : wDone l (s, xl) (i + 1) = dn := by
            rw [← HDN.out]
            unfold wDone
            rcases hcf with ⟨h1, h2⟩ | ⟨h1, h2⟩
            · rw [if_pos h1, if_pos h1]
              exact decide_eq_decide.2 ⟨fun h => by have : idxOf l s < i + 1 := h; show idxOf l s < i; omega, fun h => by have : idxOf l s < i := h; show idxOf l s < i + 1; omega⟩
            · rw [if_neg h1, if_neg h1]
              exact decide_eq_decide.2 ⟨fun h => by have : gtOf l s < i + 1 := h; show gtOf l s < i; omega, fun h => by have : gtOf l s < i := h; show gtOf l s < i + 1; omega⟩
          clear hcf
          go_roundw
          case rel => exact ⟨i + 1, no + 1, AF, cF, by omega, by omega, rfl, by rw [hdd], by go_num, HE, KXF, BLF⟩
          case measure => simp [intOf]; omega
end
end Go.Proofs.Ytcbmnfjbmkpfiaa
