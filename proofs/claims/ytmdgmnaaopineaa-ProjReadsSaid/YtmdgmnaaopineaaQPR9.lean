/-
  The law of this claim, part 9 of its proof: the parts PrXa, PrXb, Prj2.
-/
import Derived.Test.YtmdgmnaaopineaaQPR8
/- Reading a projection: the reference, where there are stripes. -/
namespace Go.Proofs.Ytmdgmnaaopineaa
open Go.ChangeShapes Go.WideShapes Go.ChangeAt Go.RowKit
set_option linter.unusedVariables false
section
variable {D : Dom} {A : Option Addr} {n c : Nat} {l : List UInt8} {p : Nat} {f : Flt} {w : World}
set_option maxRecDepth 100000 in
set_option maxHeartbeats 4000000 in
theorem rpread_more (h : rpU8.sl w D A n c l) (hD : ∀ k, D k → k < w.heap.size) (hf : OkF f) (hp : p ≤ n) (hn : n ≤ 1000000000) (hy : (mostF l (mustF isEpoch l p f).2.1 (mustF isEpoch l p f).2.2 64).1 ≠ 0) :
    Calls Try.prog 58 #[.agg (rdV A n c p f)] w (RpIs w A n c (prjF l p f)) := by
  have H : Hid ((Try.prog.info? 71).map (·.size) = some 4) := by unfold Hid; kernel_rfl
  have HP : Hid ((Try.prog.info? 25).map (·.size) = some 2) := by unfold Hid; kernel_rfl
  have HSL : Hid (∀ w', Below w.heap.size w w' → rpU8.sl w' D A n c l ∧ ∀ k, D k → k < w'.heap.size) := fun w' hb => ⟨Rp.sl_below h hb hD, fun k hk => Nat.lt_of_lt_of_le (hD k hk) hb.size⟩
  have hll := (Rp.sl_len h).1
  obtain ⟨R, hR⟩ : ∃ R, R = prjS l p f := ⟨_, rfl⟩
  have hres : prjF l p f = if (endFr R.2.1 R.2.2.1 R.2.2.2).1 = 0 then (((mustF isEpoch l p f).1, R.1), R.2.1, endFr R.2.1 R.2.2.1 R.2.2.2) else ((0, []), R.2.1, endFr R.2.1 R.2.2.1 R.2.2.2) := by
    rw [hR]; rfl
  obtain ⟨Z, hZ⟩ : ∃ Z, Z = prjF l p f := ⟨_, rfl⟩
  rw [← hZ] at hres ⊢
  have hRR : R = stsF l (prjM l p f).1 (prjM l p f).2.1 (prjM l p f).2.2 0 [] := hR
  have hmm : prjM l p f = manyF l (mustF isEpoch l p f).2.1 (mustF isEpoch l p f).2.2 64 := rfl
  have hok1 : OkF (mustF isEpoch l p f).2.2 := mustF_ok hf
  have hp1 : (mustF isEpoch l p f).2.1 ≤ n := by rw [mustF_q, ← hll]; exact (vrdF_le (by omega)).1
  have HE : Hid (∀ w', Below w.heap.size w w' → Calls Try.prog 112 #[.agg (rdV A n c p f), .int .i64 1] w' fun e w'' => e = .returned (rnV A n c (mustF isEpoch l p f)) ∧ Below w'.heap.size w' w'') := fun w' hb => repoch_any (HSL.out w' hb).1 (HSL.out w' hb).2 hf hp hn
  generalize prjM l p f = M at *
  generalize mustF isEpoch l p f = E at *
  obtain ⟨x, p1, f1⟩ := E
  simp only at HE hmm hok1 hres hp1
  have HI : Hid (∀ w', Below w.heap.size w w' → Calls Try.prog 113 #[.agg (rdV A n c p1 f1), .int .i64 64] w' fun e w'' => e = .returned (riV A n c (mostF l p1 f1 64)) ∧ Below w'.heap.size w' w'') := fun w' hb => rint_any (HSL.out w' hb).1 (HSL.out w' hb).2 hok1 hp1 hn 64 (by decide)
  have hle := mostF_le (l := l) (p := p1) (f := f1) (m := 64)
  have hmm2 : M = if (mostF l p1 f1 64).1 = 0 then (0, (mostF l p1 f1 64).2.1, failF (mostF l p1 f1 64).2.2 3 p1) else mostF l p1 f1 64 := by
    unfold manyF at hmm
    exact hmm
  have hok2 := mostF_ok (l := l) (p := p1) 64 hok1
  have hff0 : (mostF l p1 f1 64).2.2.1 ≠ 0 → (mostF l p1 f1 64).1 = 0 := fun h => mostF_fail0 h
  have hq2 : (mostF l p1 f1 64).2.1 ≤ n := by rw [mostF_q, ← hll]; exact (vrdF_le (by omega)).1
  generalize mostF l p1 f1 64 = Y at *
  obtain ⟨y, q, F⟩ := Y
  simp only at HI hle hmm2 hok2 hq2 hff0 hy
  have HRES := Lib.hid hres
  have HMM2 := Lib.hid hmm2
  have HRR := Lib.hid hRR
  have HOK2 := Lib.hid hok2
  have HQ2 := Lib.hid hq2
  have HFF0 : Hid (F.1 ≠ 0 → y = 0) := hff0
  have HST : Hid (∀ (w' : World) (fr p : Nat) (f : Flt), Below w.heap.size w w' → OkF f → p ≤ n → fr ≤ 18446744073709551615 → Calls Try.prog 42 #[.agg (rdV A n c p f), .int .u64 (fr : Int)] w' (RstIs w' A n c (strF l p f fr))) := fun w' fr p f hb hf hp hfr => rstr_any (HSL.out w' hb).1 (HSL.out w' hb).2 hf hp hn fr hfr
  have HSQ : Hid (∀ (fr p : Nat) (f : Flt), p ≤ n → (strF l p f fr).2.1 ≤ n) := fun fr p f hp => by rw [← hll]; exact strF_q (by omega)
  have HZ := Lib.hid (below3 w (.cells (rdV A n c p f) 71) (.cells rdZ 71) (.cells (prjV 0 none 0 0) 25))
  have HK4 := Lib.hid ((blk22 w 71 71 (rdV A n c p f) rdZ).alloc (.cells (prjV 0 none 0 0) 25))
  have HK5 : Hid (Blk (((w.alloc (.cells (rdV A n c p f) 71)).alloc (.cells rdZ 71)).alloc (.cells (prjV 0 none 0 0) 25)) (w.heap.size + 1 + 1) 25 (prjV 0 none 0 0)) := by
    have := Blk.new ((w.alloc (.cells (rdV A n c p f) 71)).alloc (.cells rdZ 71)) 25 (prjV 0 none 0 0)
    have e : ((w.alloc (.cells (rdV A n c p f) 71)).alloc (.cells rdZ 71)).heap.size = w.heap.size + 1 + 1 := by simp
    rw [e] at this
    exact this
  clear h hD hf hp hn hff0 hR hres hRR hmm hmm2 hok1 hok2 hZ hll hp1 hq2
  go_enter Try.func58, Try.ntmps58
  go_wp2_with fail
  generalize World.alloc (World.alloc (World.alloc _ _) _) _ = w0 at *
  have hz0 := HZ.out.size
  have hl5 := (show Blk w0 (w.heap.size + 1 + 1) 25 _ from HK5.out).lt
  go_wp2_with fail
  refine (HE.out _ HZ.out).mono ?_; rintro e w1 ⟨rfl, hb⟩
  have HB1 := Lib.hid (stepB HZ.out hb)
  have HK4a := Lib.hid (keepB (show Blk w0 (w.heap.size + 1) 71 _ from HK4.out) hb)
  have HK5a := Lib.hid (keepB (show Blk w0 (w.heap.size + 1 + 1) 25 _ from HK5.out) hb)
  have hl1 := (show Blk w1 (w.heap.size + 1 + 1) 25 _ from HK5a.out).lt
  clear hb
  have HKx := Lib.hid (blk11 w1 71 (rdV A n c p1 f1))
  have HBx := Lib.hid (stepB HB1.out (below1 w1 (.cells (rdV A n c p1 f1) 71)))
  have HK4x := Lib.hid (keepB (show Blk w1 (w.heap.size + 1) 71 _ from HK4a.out) (below1 w1 (.cells (rdV A n c p1 f1) 71)))
  have HK5x := Lib.hid (keepB (show Blk w1 (w.heap.size + 1 + 1) 25 _ from HK5a.out) (below1 w1 (.cells (rdV A n c p1 f1) 71)))
  go_wp2_with fail
  generalize hg4 : w1.heap.size = g4 at *
  generalize World.alloc w1 _ = w2 at *
  have hzx := HBx.out.size
  refine (HI.out _ HBx.out).mono ?_; rintro e w3 ⟨rfl, hb⟩
  have HKd := Lib.hid (keepB (show Blk w2 g4 71 _ from HKx.out) hb)
  have HB3 := Lib.hid (stepB HBx.out hb)
  have HK43 := Lib.hid (keepB (show Blk w2 (w.heap.size + 1) 71 _ from HK4x.out) hb)
  have HK53 := Lib.hid (keepB (show Blk w2 (w.heap.size + 1 + 1) 25 _ from HK5x.out) hb)
  have hl3 := (show Blk w3 (w.heap.size + 1 + 1) 25 _ from HK53.out).lt
  clear hb HK4a HK5a HKx HB1 HBx HK4x HK5x HK4 HK5 HZ HE HI hzx hl1 hz0 hl5
  have h0 := hy
  clear hy
  have hd0 : ((y : Int) == 0) = false := by simp; omega
  have hM : M = (y, q, F) := by have := HMM2.out; rw [if_neg h0] at this; exact this
  have HMQ : Hid (M.2.1 ≤ n) := by rw [hM]; exact HQ2.out
  have HMOK : Hid (OkF M.2.2) := by rw [hM]; exact HOK2.out
  have HST0 : Hid (StF l R (y - 0) M.2.1 M.2.2 0 []) := ⟨fun _ => by rw [HRR.out, hM]; rfl, fun h0' => by
    rw [HRR.out, hM]
    exact absurd (show F.1 = 0 from Classical.byContradiction fun hh => h0 (HFF0.out hh)) (by rw [hM] at h0'; exact h0')⟩
  have HM := Lib.hid hM
  clear h0 hM HMM2 HOK2 HQ2
  obtain ⟨g6, hg6⟩ : ∃ g6, g6 = w3.heap.size := ⟨_, rfl⟩
  obtain ⟨gp, hgp⟩ : ∃ gp, gp = g6 + 1 := ⟨_, rfl⟩
  have hbn := below2 w3 (.cells (rdV A n c q F) 71) (.cells (prjV x none 0 0) 25)
  have HL6 : Hid (Blk ((w3.alloc (.cells (rdV A n c q F) 71)).alloc (.cells (prjV x none 0 0) 25)) g6 71 (rdV A n c M.2.1 M.2.2)) := by rw [HM.out, hg6]; exact blk21 w3 71 25 (rdV A n c q F) (prjV x none 0 0)
  have HLP : Hid (Blk ((w3.alloc (.cells (rdV A n c q F) 71)).alloc (.cells (prjV x none 0 0) 25)) gp 25 (prjV x none 0 0)) := by rw [hgp, hg6]; exact blk22 w3 71 25 (rdV A n c q F) (prjV x none 0 0)
  have HL4 := Lib.hid (keepB (show Blk w3 (w.heap.size + 1) 71 _ from HK43.out) hbn)
  have HL5 := Lib.hid (keepB (show Blk w3 (w.heap.size + 1 + 1) 25 _ from HK53.out) hbn)
  have HLB := Lib.hid (stepB HB3.out hbn)
  have HG6 := Lib.hid hg6
  have HGP := Lib.hid hgp
  have hg61 : w.heap.size + 1 + 1 < g6 := by omega
  have hgp1 : g6 < gp := by omega
  clear hbn HK43 HK53 HB3 HKd hg6 hgp
  go_wp2_with fail
  try rw [← HGP.out]
  try rw [← HG6.out]
  try rw [← HGP.out]
  generalize World.alloc (World.alloc w3 _) _ = w5 at *
  go_loopw [9, 10] (fun fv i wr => ∃ (k fr pe : Nat) (fe : Flt) (As : Option Addr) (cs : Nat) (acc : List Stp), k ≤ y ∧ i = .int .i64 k ∧ fv = .int .u64 (fr : Int) ∧ fr ≤ 18446744073709551615 ∧ Hid (pe ≤ n) ∧ Hid (OkF fe) ∧ Hid (Blk wr g6 71 (rdV A n c pe fe)) ∧ Hid (Blk wr gp 25 (prjV x As k cs)) ∧ Hid (Blk wr (w.heap.size + 1) 71 rdZ) ∧ Hid (Blk wr (w.heap.size + 1 + 1) 25 (prjV 0 none 0 0)) ∧ Hid (OS wr w.heap.size As k cs acc) ∧ Hid (Below w.heap.size w wr) ∧ Hid (StF l R (y - k) pe fe fr acc)) (fun _ i _ => y - (intOf i).toNat)
  case atStart => exact ⟨0, 0, M.2.1, M.2.2, none, 0, [], by omega, rfl, rfl, by omega, HMQ.out, HMOK.out, HL6.out, HLP.out, HL4.out, HL5.out, OL.nil _ _ _ _ _ _, HLB.out, HST0.out⟩
  case round =>
    clear HL6 HLP HL4 HL5 HLB HST0 HMOK HMQ
    obtain ⟨k, fre, pe, fe, As, cs, acc, hk, rfl, rfl, hfre, HPE, OKE, G6, GP, K4Z, K5Z, OSL, BLZ, HST9⟩ := hrel
    have hzr := BLZ.out.size
    have hgl := (show Blk wr g6 71 _ from G6.out).lt
    have hpl := (show Blk wr gp 25 _ from GP.out).lt
    have d0 := (show Blk wr g6 71 _ from G6.out).cell 0
    have d1 := (show Blk wr g6 71 _ from G6.out).cell 1
    have d2 := (show Blk wr g6 71 _ from G6.out).cell 2
    have d3 := (show Blk wr g6 71 _ from G6.out).cell 3
    by_cases hF : fe.1 = 0
    case neg =>
      have hq : (fe.1 != 0) = true := by simpa using hF
      have hq2 : (fe.1 == 0) = false := by simpa using hF
      have HXX : Hid (Z = ((0, []), pe, fe)) := by
        obtain ⟨h1, h2⟩ := HST9.out.halt hF
        have h3 := HRES.out
        rw [h2, if_neg hF, h1] at h3
        exact h3
      clear hF HST9 HRES
      by_cases hkn : k < y
      case pos =>
        have hd : decide ((k : Int) < (y : Int)) = true := by simp; omega
        have hd2 : decide (k < y) = true := by simpa using hkn
        clear hkn
        go_wp2_with (first
          | (refine wpList_put_row rfl 71 (.tmp 2) (.tmp 73) rfl (w.heap.size + 1) (rdV A n c pe fe) rfl rfl 71 _ (show Blk _ _ _ _ from K4Z.out) H.out rfl (by simp [Value.oneCell']) ?_; intro v4 hblk4 hgr4; have HB4z := Lib.hid (BLZ.out.grown hgr4 BLZ.out.size (fun k hk => by injection hk with hk; omega)); have HK5z := Lib.hid ((show Blk wr (w.heap.size + 1 + 1) 25 _ from K5Z.out).grown hgr4 (by simp)); have HK4z := Lib.hid hblk4; clear hblk4 hgr4)
          | (refine wpList_put_row rfl 25 (.tmp 3) (.tmp 74) rfl (w.heap.size + 1 + 1) (prjV 0 none 0 0) rfl rfl 25 _ HK5z.out HP.out rfl (by simp [Value.oneCell']) ?_; intro v5 hblk5 hgr5))
        have hb5 := HB4z.out.grown hgr5 HB4z.out.size (fun k hk => by injection hk with hk; omega)
        have hr5 := (show Blk v4 _ _ _ from HK4z.out).grown hgr5 (by simp)
        have e0 := hr5.cell 0
        have e1 := hr5.cell 1
        have e2 := hr5.cell 2
        have e3 := hr5.cell 3
        have i0 := hblk5.cell 0
        have i1 := hblk5.cell 1
        have hXX := HXX.out
        clear HXX
        subst hXX
        exact bodyPost_ret (v := .tuple #[.agg (rdV A n c pe fe), .agg (prjV 0 none 0 0)]) (by simp [results, Try.results58, go_sem, e0, e1, e2, e3, i0, i1]) rfl ⟨none, 0, 0, rfl, OL.nil _ _ _ _ _ _, hb5⟩
      case neg =>
        have hd : decide ((k : Int) < (y : Int)) = false := by simp; omega
        have hd2 : decide (k < y) = false := by simpa using hkn
        clear hkn
        go_wp2_with (first
          | (refine wpList_put_row rfl 71 (.tmp 2) (.tmp 73) rfl (w.heap.size + 1) (rdV A n c pe fe) rfl rfl 71 _ (show Blk _ _ _ _ from K4Z.out) H.out rfl (by simp [Value.oneCell']) ?_; intro v4 hblk4 hgr4; have HB4z := Lib.hid (BLZ.out.grown hgr4 BLZ.out.size (fun k hk => by injection hk with hk; omega)); have HK5z := Lib.hid ((show Blk wr (w.heap.size + 1 + 1) 25 _ from K5Z.out).grown hgr4 (by simp)); have HK4z := Lib.hid hblk4; clear hblk4 hgr4)
          | (refine wpList_put_row rfl 25 (.tmp 3) (.tmp 74) rfl (w.heap.size + 1 + 1) (prjV 0 none 0 0) rfl rfl 25 _ HK5z.out HP.out rfl (by simp [Value.oneCell']) ?_; intro v5 hblk5 hgr5))
        have hb5 := HB4z.out.grown hgr5 HB4z.out.size (fun k hk => by injection hk with hk; omega)
        have hr5 := (show Blk v4 _ _ _ from HK4z.out).grown hgr5 (by simp)
        have e0 := hr5.cell 0
        have e1 := hr5.cell 1
        have e2 := hr5.cell 2
        have e3 := hr5.cell 3
        have i0 := hblk5.cell 0
        have i1 := hblk5.cell 1
        have hXX := HXX.out
        clear HXX
        subst hXX
        exact bodyPost_ret (v := .tuple #[.agg (rdV A n c pe fe), .agg (prjV 0 none 0 0)]) (by simp [results, Try.results58, go_sem, e0, e1, e2, e3, i0, i1]) rfl ⟨none, 0, 0, rfl, OL.nil _ _ _ _ _ _, hb5⟩
    case pos =>
    have hfe : fe = (0, 0) := OKE.out.eq hF
    subst hfe
    clear hF
    by_cases hkn : k < y
    case neg =>
      obtain rfl : k = y := by omega
      rw [Nat.sub_self] at HST9
      have hd : decide ((k : Int) < (k : Int)) = false := by simp
      have hd2 : decide (k < k) = false := by simp
      have hst0 := HST9.out.last
      have hq1 := hst0.1
      have hq3 := hst0.2.1
      have HQ3 := Lib.hid hst0.2.2
      have HRES2 : Hid (Z = if (endFr pe ((0 : Int), (0 : Int)) fre).1 = 0 then ((x, R.1), pe, endFr pe ((0 : Int), (0 : Int)) fre) else ((0, []), pe, endFr pe ((0 : Int), (0 : Int)) fre)) := by
        have := HRES.out
        rw [hq1, ← hq1, hq3, hq1] at this
        exact this
      clear hst0 hq1 hq3 hkn HST9 HRES
      by_cases hmx : fre = 4611686018427387904
      case pos =>
        have hd3 : ((fre : Int) != 4611686018427387904) = false := by simp; omega
        have HEF : endFr pe ((0 : Int), (0 : Int)) fre = ((0 : Int), (0 : Int)) := if_pos hmx
        have HXX : Hid (Z = ((x, acc), pe, ((0 : Int), (0 : Int)))) := by
          have := HRES2.out
          rw [HEF, if_pos rfl, HQ3.out (by rw [HEF])] at this
          exact this
        have s0 := (show Blk wr gp 25 _ from GP.out).cell 0
        have s1 := (show Blk wr gp 25 _ from GP.out).cell 1
        have a0 := (show Blk wr (w.heap.size + 1) 71 _ from K4Z.out).cell 0
        have a1 := (show Blk wr (w.heap.size + 1) 71 _ from K4Z.out).cell 1
        have a2 := (show Blk wr (w.heap.size + 1) 71 _ from K4Z.out).cell 2
        have a3 := (show Blk wr (w.heap.size + 1) 71 _ from K4Z.out).cell 3
        have af0 := (show Blk wr (w.heap.size + 1) 71 _ from K4Z.out).frozen 0
        have af1 := (show Blk wr (w.heap.size + 1) 71 _ from K4Z.out).frozen 1
        have af2 := (show Blk wr (w.heap.size + 1) 71 _ from K4Z.out).frozen 2
        have af3 := (show Blk wr (w.heap.size + 1) 71 _ from K4Z.out).frozen 3
        have b0 := (show Blk wr (w.heap.size + 1 + 1) 25 _ from K5Z.out).cell 0
        have b1 := (show Blk wr (w.heap.size + 1 + 1) 25 _ from K5Z.out).cell 1
        have bf0 := (show Blk wr (w.heap.size + 1 + 1) 25 _ from K5Z.out).frozen 0
        have bf1 := (show Blk wr (w.heap.size + 1 + 1) 25 _ from K5Z.out).frozen 1
        have hn1 : g6 ≠ w.heap.size + 1 := by omega
        have hn2 : g6 ≠ w.heap.size + 1 + 1 := by omega
        have hn3 : gp ≠ w.heap.size + 1 := by omega
        have hn4 : gp ≠ w.heap.size + 1 + 1 := by omega
        clear hmx HEF HRES2
        go_wp2_with fail
        go_region_with (fail)
        all_goals
          go_wp2_with fail
          have hXX := HXX.out
          clear HXX
          subst hXX
          refine bodyPost_ret (v := .tuple #[.agg (rdV A n c pe ((0 : Int), (0 : Int))), .agg (prjV x As k cs)]) (by simp [results, Try.results58, go_sem, a0, a1, a2, a3, b0, b1]) rfl ⟨As, k, cs, rfl, ?_, ?_⟩
          · exact OSL.out.far2 K4Z.out K5Z.out (fun j h4 h5 => by simp only [heap_set4 _ _ _ _ _ h4, heap_set4 _ _ _ _ _ h5, heap_drew4]) (by simp)
          · refine Below.drew ?_
            iterate 6 (refine Below.setCell ?_ (by dsimp only; omega) _)
            exact BLZ.out
      case neg =>
        have hd3 : ((fre : Int) != 4611686018427387904) = true := by simp; omega
        have HEF : endFr pe ((0 : Int), (0 : Int)) fre = failF ((0 : Int), (0 : Int)) 3 pe := if_neg hmx
        have hbad : (failF ((0 : Int), (0 : Int)) 3 (pe : Int)).1 ≠ 0 := failF_bad (by decide)
        have HXX : Hid (Z = ((0, []), pe, failF ((0 : Int), (0 : Int)) 3 (pe : Int))) := by
          have := HRES2.out
          rw [HEF, if_neg hbad] at this
          exact this
        clear hmx HEF HRES2
        go_wp2_with fail
        refine (rfail_any A n c (pe : Int) ((0 : Int), (0 : Int)) 3 (pe : Int) _).mono ?_; rintro en w5 ⟨rfl, hb5⟩
        generalize failF ((0 : Int), (0 : Int)) 3 (pe : Int) = FE at *
        have G6b := Lib.hid (keepB (show Blk wr g6 71 _ from G6.out) hb5)
        have K4b := Lib.hid (keepB (show Blk wr (w.heap.size + 1) 71 _ from K4Z.out) hb5)
        have K5b := Lib.hid (keepB (show Blk wr (w.heap.size + 1 + 1) 25 _ from K5Z.out) hb5)
        have BLb := Lib.hid (stepB BLZ.out hb5)
        have hzb := hb5.size
        clear hb5 K4Z K5Z BLZ d0 d1 d2 d3
        have hq : (FE.1 != 0) = true := by simpa using hbad
        have hq2 : (FE.1 == 0) = false := by simpa using hbad
        go_upto_region 16 with (refine wpList_put_row rfl 71 (.tmp 6) (.tmp 68) rfl g6 (rdV A n c pe FE) rfl rfl 71 _ (show Blk _ _ _ _ from G6b.out) H.out rfl (by simp [Value.oneCell']) ?_; intro w6 hblk hgr; have G6c := Lib.hid hblk; have K4Z := Lib.hid ((show Blk w5 (w.heap.size + 1) 71 _ from K4b.out).grown hgr (by simp; omega)); have K5Z := Lib.hid ((show Blk w5 (w.heap.size + 1 + 1) 25 _ from K5b.out).grown hgr (by simp; omega)); have BLZ := Lib.hid (BLb.out.grown hgr BLb.out.size (fun j hj => by injection hj with hj; omega)); clear hblk hgr; have d0 := (show Blk w6 g6 71 _ from G6c.out).cell 0; have d1 := (show Blk w6 g6 71 _ from G6c.out).cell 1; have d2 := (show Blk w6 g6 71 _ from G6c.out).cell 2; have d3 := (show Blk w6 g6 71 _ from G6c.out).cell 3)
        go_wp2_with (first
          | (refine wpList_put_row rfl 71 (.tmp 2) (.tmp 73) rfl (w.heap.size + 1) (rdV A n c pe FE) rfl rfl 71 _ (show Blk _ _ _ _ from K4Z.out) H.out rfl (by simp [Value.oneCell']) ?_; intro v4 hblk4 hgr4; have HB4z := Lib.hid (BLZ.out.grown hgr4 BLZ.out.size (fun k hk => by injection hk with hk; omega)); have HK5z := Lib.hid ((show Blk w6 (w.heap.size + 1 + 1) 25 _ from K5Z.out).grown hgr4 (by simp)); have HK4z := Lib.hid hblk4; clear hblk4 hgr4)
          | (refine wpList_put_row rfl 25 (.tmp 3) (.tmp 74) rfl (w.heap.size + 1 + 1) (prjV 0 none 0 0) rfl rfl 25 _ HK5z.out HP.out rfl (by simp [Value.oneCell']) ?_; intro v5 hblk5 hgr5))
        have hb5 := HB4z.out.grown hgr5 HB4z.out.size (fun k hk => by injection hk with hk; omega)
        have hr5 := (show Blk v4 _ _ _ from HK4z.out).grown hgr5 (by simp)
        have e0 := hr5.cell 0
        have e1 := hr5.cell 1
        have e2 := hr5.cell 2
        have e3 := hr5.cell 3
        have i0 := hblk5.cell 0
        have i1 := hblk5.cell 1
        have hXX := HXX.out
        clear HXX
        subst hXX
        exact bodyPost_ret (v := .tuple #[.agg (rdV A n c pe FE), .agg (prjV 0 none 0 0)]) (by simp [results, Try.results58, go_sem, e0, e1, e2, e3, i0, i1]) rfl ⟨none, 0, 0, rfl, OL.nil _ _ _ _ _ _, hb5⟩
    case pos =>
      have hst1 : StF l R ((y - (k + 1)) + 1) pe ((0 : Int), (0 : Int)) fre acc := by rw [show (y - (k + 1)) + 1 = y - k by omega]; exact HST9.out
      have hst2 := hst1.next
      have hto := strF_to (l := l) (p := pe) (fr := fre) (f := ((0 : Int), (0 : Int)))
      have hok5 := strF_ok (l := l) (p := pe) (fr := fre) OKE.out
      have hq5 := HSQ.out fre pe ((0 : Int), (0 : Int)) HPE.out
      have HSR := Lib.hid (HST.out wr fre pe ((0 : Int), (0 : Int)) BLZ.out OKE.out HPE.out hfre)
      generalize strF l pe ((0 : Int), (0 : Int)) fre = r at *
      obtain ⟨⟨sf, st, ss⟩, q5, f5⟩ := r
      simp only at hst2 hto hok5 HSR hq5
      obtain ⟨hsf, hst5⟩ := hto
      have HST2 := Lib.hid hst2
      have HOK5 := Lib.hid hok5
      have HQ5 := Lib.hid hq5
      have hd : decide ((k : Int) < (y : Int)) = true := by simp; omega
      have hd2 : decide (k < y) = true := by simpa using hkn
      have hk16 : k + 1 ≤ maxLen := by unfold maxLen; omega
      clear hst1 hst2 hok5 hq5 HST9
      go_wp2_with fail
      refine HSR.out.mono ?_; rintro en w5 ⟨A5, n5, c5, rfl, hl5, hb5⟩
      obtain ⟨g8, hg8⟩ : ∃ g8, g8 = w5.heap.size := ⟨_, rfl⟩
      have hbn := below2 w5 (.cells (rdV A n c q5 f5) 71) (.cells (stpV sf st A5 n5 c5) 31)
      have hz5 := hb5.size
      have G66 := Lib.hid (keepB (keepB (show Blk wr g6 71 _ from G6.out) hb5) hbn)
      have GP6 := Lib.hid (keepB (keepB (show Blk wr gp 25 _ from GP.out) hb5) hbn)
      have K46 := Lib.hid (keepB (keepB (show Blk wr (w.heap.size + 1) 71 _ from K4Z.out) hb5) hbn)
      have K56 := Lib.hid (keepB (keepB (show Blk wr (w.heap.size + 1 + 1) 25 _ from K5Z.out) hb5) hbn)
      have OS6 := Lib.hid (OL.below (OL.below OSL.out hb5) hbn)
      have LL6 := Lib.hid (LL.below hl5 hbn)
      have BL6 := Lib.hid (stepB (stepB BLZ.out hb5) hbn)
      have GC6 := Lib.hid (blk21 w5 71 31 (rdV A n c q5 f5) (stpV sf st A5 n5 c5))
      have GS6 := Lib.hid (blk22 w5 71 31 (rdV A n c q5 f5) (stpV sf st A5 n5 c5))
      rw [← hg8] at GC6 GS6
      have HG8 := Lib.hid hg8
      have hg82 : wr.heap.size ≤ g8 := by omega
      clear hl5 hb5 hbn hg8
      go_upto_region 11 with (fail)
      try rw [← HG8.out]
      generalize World.alloc (World.alloc w5 _) _ = w6 at *
      clear d0 d1 d2 d3
      have t0 := (show Blk w6 g8 71 _ from GC6.out).cell 0
      have t1 := (show Blk w6 g8 71 _ from GC6.out).cell 1
      have t2 := (show Blk w6 g8 71 _ from GC6.out).cell 2
      have t3 := (show Blk w6 g8 71 _ from GC6.out).cell 3
      have hg8l := (show Blk w6 (g8 + 1) 31 _ from GS6.out).lt
      go_upto_region 12 with (refine wpList_put_row rfl 71 (.tmp 6) (.tmp 48) rfl g6 (rdV A n c q5 f5) rfl rfl 71 _ (show Blk _ _ _ _ from G66.out) H.out rfl (by simp [Value.oneCell']) ?_; intro w7 hblk hgr; have G67 := Lib.hid hblk; have GP7 := Lib.hid ((show Blk w6 gp 25 _ from GP6.out).grown hgr (by simp; omega)); have K47 := Lib.hid ((show Blk w6 (w.heap.size + 1) 71 _ from K46.out).grown hgr (by simp; omega)); have K57 := Lib.hid ((show Blk w6 (w.heap.size + 1 + 1) 25 _ from K56.out).grown hgr (by simp; omega)); have GS7 := Lib.hid ((show Blk w6 (g8 + 1) 31 _ from GS6.out).grown hgr (by simp; omega)); have BL7 := Lib.hid (BL6.out.grown hgr BL6.out.size (fun j hj => by injection hj with hj; omega)); have OS7 := Lib.hid (OL.grown OS6.out (show Blk w6 g6 71 _ from G66.out) id (by unfold TSs; decide) (by decide) hgr); have LL7 := Lib.hid (LL.grown LL6.out (show Blk w6 g6 71 _ from G66.out) (by decide) (by decide) hgr); clear hblk hgr)
      clear t0 t1 t2 t3
      have hz7 := BL7.out.size
      have hg8l7 := (show Blk w7 (g8 + 1) 31 _ from GS7.out).lt
      have hbb := below1 w7 (.cells (stpV sf st A5 n5 c5) 31)
      have g1 := (show Blk w7 gp 25 _ from GP7.out).cell 1
      have v0 := (show Blk w7 (g8 + 1) 31 _ from GS7.out).cell 0
      have v1 := (show Blk w7 (g8 + 1) 31 _ from GS7.out).cell 1
      have v2 := (show Blk w7 (g8 + 1) 31 _ from GS7.out).cell 2
      obtain ⟨vals, hov, hln, hvi⟩ := (show OS w7 w.heap.size As k cs acc from OS7.out).below hbb
      have HOV := Lib.hid hov
      have HVI := Lib.hid hvi
      have HLN := Lib.hid hln
      have HX := Lib.hid (stp_ok (show sf ≤ 18446744073709551615 by omega) (show st ≤ 18446744073709551615 by omega) (LL.tb (D0 := fun _ => False) (LL.below LL7.out hbb)))
      have HSRC := Lib.hid (Src.blk (size := rpStp.size) (blk11 w7 31 (stpV sf st A5 n5 c5)) (by kernel_rfl) (by simp [Value.oneCell']))
      have HGA := Lib.hid (keepB (show Blk w7 gp 25 _ from GP7.out) hbb)
      have HGSA := Lib.hid (keepB (show Blk w7 (g8 + 1) 31 _ from GS7.out) hbb)
      have HG6A := Lib.hid (keepB (show Blk w7 g6 71 _ from G67.out) hbb)
      have HK4A := Lib.hid (keepB (show Blk w7 (w.heap.size + 1) 71 _ from K47.out) hbb)
      have HK5A := Lib.hid (keepB (show Blk w7 (w.heap.size + 1 + 1) 25 _ from K57.out) hbb)
      have HBA := Lib.hid (stepB BL7.out hbb)
      have HLT : Hid (∀ j, (Value.slice As k cs).ownBlock = some j → w.heap.size ≤ j ∧ j < wr.heap.size) := by
        obtain ⟨vals0, ho0, _⟩ := OSL.out
        exact fun j hj => ho0.lt j hj
      clear hbb hov hvi hln
      go_upto_region 13 with (at_builtin; refine wpList_app rfl (.tmp 50) (.tmp 52) _ rfl elemStp rfl HOV.out rfl HSRC.out hk16 (by omega) (by simp; omega) ?_; intro A7 c7 w8 ho7 hg7 hat7; have HO7 := Lib.hid ho7; have HG7 := Lib.hid hg7; have hk7 := (show Blk (w7.alloc (.cells (stpV sf st A5 n5 c5) 31)) gp 25 _ from HGA.out).grown hg7 (Pen.ne (show Blk _ _ _ _ from HGA.out) HOV.out (by decide)); have HK7 := Lib.hid hk7; have q1 := hk7.cell 1; have q1f := hk7.frozen 1; clear ho7 hg7 hat7 hk7)
      have hdj := HLT.out
      have hgs8 := (show Blk (w7.alloc (.cells (stpV sf st A5 n5 c5) 31)) (g8 + 1) 31 _ from HGSA.out).grown HG7.out (fun e => by have := (hdj _ e.symm).2; omega)
      have GS8 := Lib.hid (hgs8.far (p := ⟨gp, 1, none⟩) (by dsimp only; omega) (.slice A7 (k + 1) c7))
      have G68 := Lib.hid (((show Blk (w7.alloc (.cells (stpV sf st A5 n5 c5) 31)) g6 71 _ from HG6A.out).grown HG7.out (Pen.ne (show Blk _ _ _ _ from HG6A.out) HOV.out (by decide))).far (p := ⟨gp, 1, none⟩) (by dsimp only; omega) (.slice A7 (k + 1) c7))
      have K48 := Lib.hid (((show Blk (w7.alloc (.cells (stpV sf st A5 n5 c5) 31)) (w.heap.size + 1) 71 _ from HK4A.out).grown HG7.out (Pen.ne (show Blk _ _ _ _ from HK4A.out) HOV.out (by decide))).far (p := ⟨gp, 1, none⟩) (by dsimp only; omega) (.slice A7 (k + 1) c7))
      have K58 := Lib.hid (((show Blk (w7.alloc (.cells (stpV sf st A5 n5 c5) 31)) (w.heap.size + 1 + 1) 25 _ from HK5A.out).grown HG7.out (Pen.ne (show Blk _ _ _ _ from HK5A.out) HOV.out (by decide))).far (p := ⟨gp, 1, none⟩) (by dsimp only; omega) (.slice A7 (k + 1) c7))
      have BL8 := Lib.hid ((HBA.out.grown HG7.out HBA.out.size (fun j hj => (hdj j hj).1)).setCell (p := ⟨gp, 1, none⟩) (by dsimp only; omega) (.slice A7 (k + 1) c7))
      have hos7 := (show OS (w7.alloc (.cells (stpV sf st A5 n5 c5) 31)) w.heap.size As k cs acc from ⟨vals, HOV.out, HLN.out, HVI.out⟩).push HOV.out HVI.out tss_stp (fun _ h => h.elim) HO7.out HG7.out HX.out
      have OS8 := Lib.hid (hos7.put (show Blk w8 gp 25 _ from HK7.out) id tss_prj (by decide) (a := ⟨gp, 1, none⟩) rfl (.slice A7 (k + 1) c7))
      have GP8 := Lib.hid ((show Blk w8 gp 25 _ from HK7.out).put 1 (.slice A7 (k + 1) c7))
      clear hdj hgs8 hos7 q1 q1f g1 v0 v1 v2
      generalize World.setCell w8 _ _ = w9 at *
      have v1 := (show Blk w9 (g8 + 1) 31 _ from GS8.out).cell 1
      go_wp2_with fail
      go_roundw
      case rel => exact ⟨k + 1, st, q5, f5, A7, c7, acc ++ [(sf, st, ss)], by omega, by go_num, rfl, by omega, HQ5.out, HOK5.out, G68.out, GP8.out, K48.out, K58.out, OS8.out, BL8.out, HST2.out⟩
      case measure => simp [intOf]; omega
end
end Go.Proofs.Ytmdgmnaaopineaa
/- Reading a projection: the reference, where there are none. -/
namespace Go.Proofs.Ytmdgmnaaopineaa
open Go.ChangeShapes Go.WideShapes Go.ChangeAt Go.RowKit
set_option linter.unusedVariables false
section
variable {D : Dom} {A : Option Addr} {n c : Nat} {l : List UInt8} {p : Nat} {f : Flt} {w : World}
set_option maxRecDepth 100000 in
set_option maxHeartbeats 4000000 in
theorem rpread_zero (h : rpU8.sl w D A n c l) (hD : ∀ k, D k → k < w.heap.size) (hf : OkF f) (hp : p ≤ n) (hn : n ≤ 1000000000) (hy : (mostF l (mustF isEpoch l p f).2.1 (mustF isEpoch l p f).2.2 64).1 = 0) :
    Calls Try.prog 58 #[.agg (rdV A n c p f)] w (RpIs w A n c (prjF l p f)) := by
  have H : Hid ((Try.prog.info? 71).map (·.size) = some 4) := by unfold Hid; kernel_rfl
  have HP : Hid ((Try.prog.info? 25).map (·.size) = some 2) := by unfold Hid; kernel_rfl
  have HSL : Hid (∀ w', Below w.heap.size w w' → rpU8.sl w' D A n c l ∧ ∀ k, D k → k < w'.heap.size) := fun w' hb => ⟨Rp.sl_below h hb hD, fun k hk => Nat.lt_of_lt_of_le (hD k hk) hb.size⟩
  have hll := (Rp.sl_len h).1
  obtain ⟨R, hR⟩ : ∃ R, R = prjS l p f := ⟨_, rfl⟩
  have hres : prjF l p f = if (endFr R.2.1 R.2.2.1 R.2.2.2).1 = 0 then (((mustF isEpoch l p f).1, R.1), R.2.1, endFr R.2.1 R.2.2.1 R.2.2.2) else ((0, []), R.2.1, endFr R.2.1 R.2.2.1 R.2.2.2) := by
    rw [hR]; rfl
  obtain ⟨Z, hZ⟩ : ∃ Z, Z = prjF l p f := ⟨_, rfl⟩
  rw [← hZ] at hres ⊢
  have hRR : R = stsF l (prjM l p f).1 (prjM l p f).2.1 (prjM l p f).2.2 0 [] := hR
  have hmm : prjM l p f = manyF l (mustF isEpoch l p f).2.1 (mustF isEpoch l p f).2.2 64 := rfl
  have hok1 : OkF (mustF isEpoch l p f).2.2 := mustF_ok hf
  have hp1 : (mustF isEpoch l p f).2.1 ≤ n := by rw [mustF_q, ← hll]; exact (vrdF_le (by omega)).1
  have HE : Hid (∀ w', Below w.heap.size w w' → Calls Try.prog 112 #[.agg (rdV A n c p f), .int .i64 1] w' fun e w'' => e = .returned (rnV A n c (mustF isEpoch l p f)) ∧ Below w'.heap.size w' w'') := fun w' hb => repoch_any (HSL.out w' hb).1 (HSL.out w' hb).2 hf hp hn
  generalize prjM l p f = M at *
  generalize mustF isEpoch l p f = E at *
  obtain ⟨x, p1, f1⟩ := E
  simp only at HE hmm hok1 hres hp1
  have HI : Hid (∀ w', Below w.heap.size w w' → Calls Try.prog 113 #[.agg (rdV A n c p1 f1), .int .i64 64] w' fun e w'' => e = .returned (riV A n c (mostF l p1 f1 64)) ∧ Below w'.heap.size w' w'') := fun w' hb => rint_any (HSL.out w' hb).1 (HSL.out w' hb).2 hok1 hp1 hn 64 (by decide)
  have hle := mostF_le (l := l) (p := p1) (f := f1) (m := 64)
  have hmm2 : M = if (mostF l p1 f1 64).1 = 0 then (0, (mostF l p1 f1 64).2.1, failF (mostF l p1 f1 64).2.2 3 p1) else mostF l p1 f1 64 := by
    unfold manyF at hmm
    exact hmm
  have hok2 := mostF_ok (l := l) (p := p1) 64 hok1
  have hff0 : (mostF l p1 f1 64).2.2.1 ≠ 0 → (mostF l p1 f1 64).1 = 0 := fun h => mostF_fail0 h
  have hq2 : (mostF l p1 f1 64).2.1 ≤ n := by rw [mostF_q, ← hll]; exact (vrdF_le (by omega)).1
  generalize mostF l p1 f1 64 = Y at *
  obtain ⟨y, q, F⟩ := Y
  simp only at HI hle hmm2 hok2 hq2 hff0 hy
  have HRES := Lib.hid hres
  have HMM2 := Lib.hid hmm2
  have HRR := Lib.hid hRR
  have HOK2 := Lib.hid hok2
  have HQ2 := Lib.hid hq2
  have HFF0 : Hid (F.1 ≠ 0 → y = 0) := hff0
  have HST : Hid (∀ (w' : World) (fr p : Nat) (f : Flt), Below w.heap.size w w' → OkF f → p ≤ n → fr ≤ 18446744073709551615 → Calls Try.prog 42 #[.agg (rdV A n c p f), .int .u64 (fr : Int)] w' (RstIs w' A n c (strF l p f fr))) := fun w' fr p f hb hf hp hfr => rstr_any (HSL.out w' hb).1 (HSL.out w' hb).2 hf hp hn fr hfr
  have HSQ : Hid (∀ (fr p : Nat) (f : Flt), p ≤ n → (strF l p f fr).2.1 ≤ n) := fun fr p f hp => by rw [← hll]; exact strF_q (by omega)
  have HZ := Lib.hid (below3 w (.cells (rdV A n c p f) 71) (.cells rdZ 71) (.cells (prjV 0 none 0 0) 25))
  have HK4 := Lib.hid ((blk22 w 71 71 (rdV A n c p f) rdZ).alloc (.cells (prjV 0 none 0 0) 25))
  have HK5 : Hid (Blk (((w.alloc (.cells (rdV A n c p f) 71)).alloc (.cells rdZ 71)).alloc (.cells (prjV 0 none 0 0) 25)) (w.heap.size + 1 + 1) 25 (prjV 0 none 0 0)) := by
    have := Blk.new ((w.alloc (.cells (rdV A n c p f) 71)).alloc (.cells rdZ 71)) 25 (prjV 0 none 0 0)
    have e : ((w.alloc (.cells (rdV A n c p f) 71)).alloc (.cells rdZ 71)).heap.size = w.heap.size + 1 + 1 := by simp
    rw [e] at this
    exact this
  clear h hD hf hp hn hff0 hR hres hRR hmm hmm2 hok1 hok2 hZ hll hp1 hq2
  go_enter Try.func58, Try.ntmps58
  go_wp2_with fail
  generalize World.alloc (World.alloc (World.alloc _ _) _) _ = w0 at *
  have hz0 := HZ.out.size
  have hl5 := (show Blk w0 (w.heap.size + 1 + 1) 25 _ from HK5.out).lt
  go_wp2_with fail
  refine (HE.out _ HZ.out).mono ?_; rintro e w1 ⟨rfl, hb⟩
  have HB1 := Lib.hid (stepB HZ.out hb)
  have HK4a := Lib.hid (keepB (show Blk w0 (w.heap.size + 1) 71 _ from HK4.out) hb)
  have HK5a := Lib.hid (keepB (show Blk w0 (w.heap.size + 1 + 1) 25 _ from HK5.out) hb)
  have hl1 := (show Blk w1 (w.heap.size + 1 + 1) 25 _ from HK5a.out).lt
  clear hb
  have HKx := Lib.hid (blk11 w1 71 (rdV A n c p1 f1))
  have HBx := Lib.hid (stepB HB1.out (below1 w1 (.cells (rdV A n c p1 f1) 71)))
  have HK4x := Lib.hid (keepB (show Blk w1 (w.heap.size + 1) 71 _ from HK4a.out) (below1 w1 (.cells (rdV A n c p1 f1) 71)))
  have HK5x := Lib.hid (keepB (show Blk w1 (w.heap.size + 1 + 1) 25 _ from HK5a.out) (below1 w1 (.cells (rdV A n c p1 f1) 71)))
  go_wp2_with fail
  generalize hg4 : w1.heap.size = g4 at *
  generalize World.alloc w1 _ = w2 at *
  have hzx := HBx.out.size
  refine (HI.out _ HBx.out).mono ?_; rintro e w3 ⟨rfl, hb⟩
  have HKd := Lib.hid (keepB (show Blk w2 g4 71 _ from HKx.out) hb)
  have HB3 := Lib.hid (stepB HBx.out hb)
  have HK43 := Lib.hid (keepB (show Blk w2 (w.heap.size + 1) 71 _ from HK4x.out) hb)
  have HK53 := Lib.hid (keepB (show Blk w2 (w.heap.size + 1 + 1) 25 _ from HK5x.out) hb)
  have hl3 := (show Blk w3 (w.heap.size + 1 + 1) 25 _ from HK53.out).lt
  clear hb HK4a HK5a HKx HB1 HBx HK4x HK5x HK4 HK5 HZ HE HI hzx hl1 hz0 hl5
  subst hy
  have hM : M = (0, q, failF F 3 p1) := by have := HMM2.out; rw [if_pos rfl] at this; exact this
  have HMQ : Hid (M.2.1 ≤ n) := by rw [hM]; exact HQ2.out
  have HMOK : Hid (OkF M.2.2) := by rw [hM]; exact HOK2.out.fail _ _
  have HST0 : Hid (StF l R (0 - 0) M.2.1 M.2.2 0 []) := ⟨fun _ => by rw [HRR.out, hM], fun _ => by rw [HRR.out, hM]; exact ⟨rfl, rfl⟩⟩
  have HM := Lib.hid hM
  clear hM HMM2 HOK2 HQ2
  obtain ⟨g6, hg6⟩ : ∃ g6, g6 = w3.heap.size := ⟨_, rfl⟩
  have hbn := below1 w3 (.cells (rdV A n c q F) 71)
  have HL6a : Hid (Blk (w3.alloc (.cells (rdV A n c q F) 71)) g6 71 (rdV A n c q F)) := by rw [hg6]; exact blk11 w3 71 (rdV A n c q F)
  have HKda := Lib.hid (keepB (show Blk w3 g4 71 _ from HKd.out) hbn)
  have HL4a := Lib.hid (keepB (show Blk w3 (w.heap.size + 1) 71 _ from HK43.out) hbn)
  have HL5a := Lib.hid (keepB (show Blk w3 (w.heap.size + 1 + 1) 25 _ from HK53.out) hbn)
  have HLBa := Lib.hid (stepB HB3.out hbn)
  have HG6 := Lib.hid hg6
  have hg61 : w.heap.size + 1 + 1 < g6 := by omega
  clear hbn HK43 HK53 HB3 HKd hg6
  go_upto_region 4 with (fail)
  try rw [← HG6.out]
  generalize World.alloc w3 _ = w4 at *
  have c41 := (show Blk w4 g4 71 _ from HKda.out).cell 1
  have t0 := (show Blk w4 g6 71 _ from HL6a.out).cell 0
  have t1 := (show Blk w4 g6 71 _ from HL6a.out).cell 1
  have t2 := (show Blk w4 g6 71 _ from HL6a.out).cell 2
  have t3 := (show Blk w4 g6 71 _ from HL6a.out).cell 3
  go_wp2_with fail
  refine (rfail_any A n c (q : Int) F 3 (p1 : Int) _).mono ?_; rintro en w5 ⟨rfl, hb5⟩
  have HL6b := Lib.hid (keepB (show Blk w4 g6 71 _ from HL6a.out) hb5)
  have HL4b := Lib.hid (keepB (show Blk w4 (w.heap.size + 1) 71 _ from HL4a.out) hb5)
  have HL5b := Lib.hid (keepB (show Blk w4 (w.heap.size + 1 + 1) 25 _ from HL5a.out) hb5)
  have HLBb := Lib.hid (stepB HLBa.out hb5)
  have hz5 := hb5.size
  have hg6l := (show Blk w4 g6 71 _ from HL6a.out).lt
  clear hb5 c41 t0 t1 t2 t3 HL6a HL4a HL5a HLBa HKda
  go_upto_region 5 with (refine wpList_put_row rfl 71 (.tmp 6) (.tmp 28) rfl g6 (rdV A n c q (failF F 3 p1)) rfl rfl 71 _ (show Blk _ _ _ _ from HL6b.out) H.out rfl (by simp [Value.oneCell']) ?_; intro w6 hblk hgr; have HL6c := Lib.hid hblk; have HL4c := Lib.hid ((show Blk w5 (w.heap.size + 1) 71 _ from HL4b.out).grown hgr (by simp; omega)); have HL5c := Lib.hid ((show Blk w5 (w.heap.size + 1 + 1) 25 _ from HL5b.out).grown hgr (by simp; omega)); have HLBc := Lib.hid (HLBb.out.grown hgr HLBb.out.size (fun j hj => by injection hj with hj; omega)); have hz6 := hgr.size; clear hblk hgr)
  obtain ⟨gp, hgp⟩ : ∃ gp, gp = w6.heap.size := ⟨_, rfl⟩
  have hbn := below1 w6 (.cells (prjV x none 0 0) 25)
  have HL6 : Hid (Blk (w6.alloc (.cells (prjV x none 0 0) 25)) g6 71 (rdV A n c M.2.1 M.2.2)) := by rw [HM.out]; exact keepB (show Blk w6 g6 71 _ from HL6c.out) hbn
  have HLP : Hid (Blk (w6.alloc (.cells (prjV x none 0 0) 25)) gp 25 (prjV x none 0 0)) := by rw [hgp]; exact blk11 w6 25 (prjV x none 0 0)
  have HL4 := Lib.hid (keepB (show Blk w6 (w.heap.size + 1) 71 _ from HL4c.out) hbn)
  have HL5 := Lib.hid (keepB (show Blk w6 (w.heap.size + 1 + 1) 25 _ from HL5c.out) hbn)
  have HLB := Lib.hid (stepB HLBc.out hbn)
  have HGP := Lib.hid hgp
  have hgp1 : g6 < gp := by omega
  clear hbn hgp
  go_wp2_with fail
  try rw [← HGP.out]
  generalize World.alloc w6 _ = w7 at *
  go_loopw [9, 10] (fun fv i wr => ∃ (k fr pe : Nat) (fe : Flt) (As : Option Addr) (cs : Nat) (acc : List Stp), k ≤ 0 ∧ i = .int .i64 k ∧ fv = .int .u64 (fr : Int) ∧ fr ≤ 18446744073709551615 ∧ Hid (pe ≤ n) ∧ Hid (OkF fe) ∧ Hid (Blk wr g6 71 (rdV A n c pe fe)) ∧ Hid (Blk wr gp 25 (prjV x As k cs)) ∧ Hid (Blk wr (w.heap.size + 1) 71 rdZ) ∧ Hid (Blk wr (w.heap.size + 1 + 1) 25 (prjV 0 none 0 0)) ∧ Hid (OS wr w.heap.size As k cs acc) ∧ Hid (Below w.heap.size w wr) ∧ Hid (StF l R (0 - k) pe fe fr acc)) (fun _ i _ => 0 - (intOf i).toNat)
  case atStart => exact ⟨0, 0, M.2.1, M.2.2, none, 0, [], by omega, rfl, rfl, by omega, HMQ.out, HMOK.out, HL6.out, HLP.out, HL4.out, HL5.out, OL.nil _ _ _ _ _ _, HLB.out, HST0.out⟩
  case round =>
    clear HL6 HLP HL4 HL5 HLB HST0 HMOK HMQ
    obtain ⟨k, fre, pe, fe, As, cs, acc, hk, rfl, rfl, hfre, HPE, OKE, G6, GP, K4Z, K5Z, OSL, BLZ, HST9⟩ := hrel
    have hzr := BLZ.out.size
    have hgl := (show Blk wr g6 71 _ from G6.out).lt
    have hpl := (show Blk wr gp 25 _ from GP.out).lt
    have d0 := (show Blk wr g6 71 _ from G6.out).cell 0
    have d1 := (show Blk wr g6 71 _ from G6.out).cell 1
    have d2 := (show Blk wr g6 71 _ from G6.out).cell 2
    have d3 := (show Blk wr g6 71 _ from G6.out).cell 3
    obtain rfl : k = 0 := by omega
    have hd : decide ((0 : Int) < (0 : Int)) = false := by simp
    by_cases hF : fe.1 = 0
    case neg =>
      have hq : (fe.1 != 0) = true := by simpa using hF
      have hq2 : (fe.1 == 0) = false := by simpa using hF
      have HXX : Hid (Z = ((0, []), pe, fe)) := by
        obtain ⟨h1, h2⟩ := HST9.out.halt hF
        have h3 := HRES.out
        rw [h2, if_neg hF, h1] at h3
        exact h3
      clear hF HST9 HRES
      go_wp2_with (first
        | (refine wpList_put_row rfl 71 (.tmp 2) (.tmp 73) rfl (w.heap.size + 1) (rdV A n c pe fe) rfl rfl 71 _ (show Blk _ _ _ _ from K4Z.out) H.out rfl (by simp [Value.oneCell']) ?_; intro v4 hblk4 hgr4; have HB4z := Lib.hid (BLZ.out.grown hgr4 BLZ.out.size (fun k hk => by injection hk with hk; omega)); have HK5z := Lib.hid ((show Blk wr (w.heap.size + 1 + 1) 25 _ from K5Z.out).grown hgr4 (by simp)); have HK4z := Lib.hid hblk4; clear hblk4 hgr4)
        | (refine wpList_put_row rfl 25 (.tmp 3) (.tmp 74) rfl (w.heap.size + 1 + 1) (prjV 0 none 0 0) rfl rfl 25 _ HK5z.out HP.out rfl (by simp [Value.oneCell']) ?_; intro v5 hblk5 hgr5))
      have hb5 := HB4z.out.grown hgr5 HB4z.out.size (fun k hk => by injection hk with hk; omega)
      have hr5 := (show Blk v4 _ _ _ from HK4z.out).grown hgr5 (by simp)
      have e0 := hr5.cell 0
      have e1 := hr5.cell 1
      have e2 := hr5.cell 2
      have e3 := hr5.cell 3
      have i0 := hblk5.cell 0
      have i1 := hblk5.cell 1
      have hXX := HXX.out
      clear HXX
      subst hXX
      exact bodyPost_ret (v := .tuple #[.agg (rdV A n c pe fe), .agg (prjV 0 none 0 0)]) (by simp [results, Try.results58, go_sem, e0, e1, e2, e3, i0, i1]) rfl ⟨none, 0, 0, rfl, OL.nil _ _ _ _ _ _, hb5⟩
    case pos =>
    have hfe : fe = (0, 0) := OKE.out.eq hF
    subst hfe
    clear hF
    have hst0 := HST9.out.last
    have hq1 := hst0.1
    have hq3 := hst0.2.1
    have HQ3 := Lib.hid hst0.2.2
    have HRES2 : Hid (Z = if (endFr pe ((0 : Int), (0 : Int)) fre).1 = 0 then ((x, R.1), pe, endFr pe ((0 : Int), (0 : Int)) fre) else ((0, []), pe, endFr pe ((0 : Int), (0 : Int)) fre)) := by
      have := HRES.out
      rw [hq1, ← hq1, hq3, hq1] at this
      exact this
    clear hst0 hq1 hq3 HST9 HRES
    by_cases hmx : fre = 4611686018427387904
    case pos =>
      have hd3 : ((fre : Int) != 4611686018427387904) = false := by simp; omega
      have HEF : endFr pe ((0 : Int), (0 : Int)) fre = ((0 : Int), (0 : Int)) := if_pos hmx
      have HXX : Hid (Z = ((x, acc), pe, ((0 : Int), (0 : Int)))) := by
        have := HRES2.out
        rw [HEF, if_pos rfl, HQ3.out (by rw [HEF])] at this
        exact this
      have s0 := (show Blk wr gp 25 _ from GP.out).cell 0
      have s1 := (show Blk wr gp 25 _ from GP.out).cell 1
      have a0 := (show Blk wr (w.heap.size + 1) 71 _ from K4Z.out).cell 0
      have a1 := (show Blk wr (w.heap.size + 1) 71 _ from K4Z.out).cell 1
      have a2 := (show Blk wr (w.heap.size + 1) 71 _ from K4Z.out).cell 2
      have a3 := (show Blk wr (w.heap.size + 1) 71 _ from K4Z.out).cell 3
      have af0 := (show Blk wr (w.heap.size + 1) 71 _ from K4Z.out).frozen 0
      have af1 := (show Blk wr (w.heap.size + 1) 71 _ from K4Z.out).frozen 1
      have af2 := (show Blk wr (w.heap.size + 1) 71 _ from K4Z.out).frozen 2
      have af3 := (show Blk wr (w.heap.size + 1) 71 _ from K4Z.out).frozen 3
      have b0 := (show Blk wr (w.heap.size + 1 + 1) 25 _ from K5Z.out).cell 0
      have b1 := (show Blk wr (w.heap.size + 1 + 1) 25 _ from K5Z.out).cell 1
      have bf0 := (show Blk wr (w.heap.size + 1 + 1) 25 _ from K5Z.out).frozen 0
      have bf1 := (show Blk wr (w.heap.size + 1 + 1) 25 _ from K5Z.out).frozen 1
      have hn1 : g6 ≠ w.heap.size + 1 := by omega
      have hn2 : g6 ≠ w.heap.size + 1 + 1 := by omega
      have hn3 : gp ≠ w.heap.size + 1 := by omega
      have hn4 : gp ≠ w.heap.size + 1 + 1 := by omega
      clear hmx HEF HRES2
      go_wp2_with fail
      go_region_with (fail)
      all_goals
        go_wp2_with fail
        have hXX := HXX.out
        clear HXX
        subst hXX
        refine bodyPost_ret (v := .tuple #[.agg (rdV A n c pe ((0 : Int), (0 : Int))), .agg (prjV x As 0 cs)]) (by simp [results, Try.results58, go_sem, a0, a1, a2, a3, b0, b1]) rfl ⟨As, 0, cs, rfl, ?_, ?_⟩
        · exact OSL.out.far2 K4Z.out K5Z.out (fun j h4 h5 => by simp only [heap_set4 _ _ _ _ _ h4, heap_set4 _ _ _ _ _ h5, heap_drew4]) (by simp)
        · refine Below.drew ?_
          iterate 6 (refine Below.setCell ?_ (by dsimp only; omega) _)
          exact BLZ.out
    case neg =>
      have hd3 : ((fre : Int) != 4611686018427387904) = true := by simp; omega
      have HEF : endFr pe ((0 : Int), (0 : Int)) fre = failF ((0 : Int), (0 : Int)) 3 pe := if_neg hmx
      have hbad : (failF ((0 : Int), (0 : Int)) 3 (pe : Int)).1 ≠ 0 := failF_bad (by decide)
      have HXX : Hid (Z = ((0, []), pe, failF ((0 : Int), (0 : Int)) 3 (pe : Int))) := by
        have := HRES2.out
        rw [HEF, if_neg hbad] at this
        exact this
      clear hmx HEF HRES2
      go_wp2_with fail
      refine (rfail_any A n c (pe : Int) ((0 : Int), (0 : Int)) 3 (pe : Int) _).mono ?_; rintro en w5 ⟨rfl, hb5⟩
      generalize failF ((0 : Int), (0 : Int)) 3 (pe : Int) = FE at *
      have G6b := Lib.hid (keepB (show Blk wr g6 71 _ from G6.out) hb5)
      have K4b := Lib.hid (keepB (show Blk wr (w.heap.size + 1) 71 _ from K4Z.out) hb5)
      have K5b := Lib.hid (keepB (show Blk wr (w.heap.size + 1 + 1) 25 _ from K5Z.out) hb5)
      have BLb := Lib.hid (stepB BLZ.out hb5)
      have hzb := hb5.size
      clear hb5 K4Z K5Z BLZ d0 d1 d2 d3
      have hq : (FE.1 != 0) = true := by simpa using hbad
      have hq2 : (FE.1 == 0) = false := by simpa using hbad
      go_upto_region 16 with (refine wpList_put_row rfl 71 (.tmp 6) (.tmp 68) rfl g6 (rdV A n c pe FE) rfl rfl 71 _ (show Blk _ _ _ _ from G6b.out) H.out rfl (by simp [Value.oneCell']) ?_; intro w6 hblk hgr; have G6c := Lib.hid hblk; have K4Z := Lib.hid ((show Blk w5 (w.heap.size + 1) 71 _ from K4b.out).grown hgr (by simp; omega)); have K5Z := Lib.hid ((show Blk w5 (w.heap.size + 1 + 1) 25 _ from K5b.out).grown hgr (by simp; omega)); have BLZ := Lib.hid (BLb.out.grown hgr BLb.out.size (fun j hj => by injection hj with hj; omega)); clear hblk hgr; have d0 := (show Blk w6 g6 71 _ from G6c.out).cell 0; have d1 := (show Blk w6 g6 71 _ from G6c.out).cell 1; have d2 := (show Blk w6 g6 71 _ from G6c.out).cell 2; have d3 := (show Blk w6 g6 71 _ from G6c.out).cell 3)
      go_wp2_with (first
        | (refine wpList_put_row rfl 71 (.tmp 2) (.tmp 73) rfl (w.heap.size + 1) (rdV A n c pe FE) rfl rfl 71 _ (show Blk _ _ _ _ from K4Z.out) H.out rfl (by simp [Value.oneCell']) ?_; intro v4 hblk4 hgr4; have HB4z := Lib.hid (BLZ.out.grown hgr4 BLZ.out.size (fun k hk => by injection hk with hk; omega)); have HK5z := Lib.hid ((show Blk w6 (w.heap.size + 1 + 1) 25 _ from K5Z.out).grown hgr4 (by simp)); have HK4z := Lib.hid hblk4; clear hblk4 hgr4)
        | (refine wpList_put_row rfl 25 (.tmp 3) (.tmp 74) rfl (w.heap.size + 1 + 1) (prjV 0 none 0 0) rfl rfl 25 _ HK5z.out HP.out rfl (by simp [Value.oneCell']) ?_; intro v5 hblk5 hgr5))
      have hb5 := HB4z.out.grown hgr5 HB4z.out.size (fun k hk => by injection hk with hk; omega)
      have hr5 := (show Blk v4 _ _ _ from HK4z.out).grown hgr5 (by simp)
      have e0 := hr5.cell 0
      have e1 := hr5.cell 1
      have e2 := hr5.cell 2
      have e3 := hr5.cell 3
      have i0 := hblk5.cell 0
      have i1 := hblk5.cell 1
      have hXX := HXX.out
      clear HXX
      subst hXX
      exact bodyPost_ret (v := .tuple #[.agg (rdV A n c pe FE), .agg (prjV 0 none 0 0)]) (by simp [results, Try.results58, go_sem, e0, e1, e2, e3, i0, i1]) rfl ⟨none, 0, 0, rfl, OL.nil _ _ _ _ _ _, hb5⟩

end
end Go.Proofs.Ytmdgmnaaopineaa
/- The walks of the reference's Right of a projection, and whether stripes are too many. -/
namespace Go.Proofs.Ytmdgmnaaopineaa
open Go.ChangeShapes Go.WideShapes Go.ChangeAt Go.RowKit
set_option linter.unusedVariables false
theorem startOf_pos {l : List Stp} {k : Nat} {s : Stp} (hk : 0 < k) (h : l[k - 1]? = some s) : startOf l k = s.2.1 := by
  obtain ⟨j, rfl⟩ : ∃ j, k = j + 1 := ⟨k - 1, by omega⟩
  exact startOf_succ h

set_option maxRecDepth 100000 in
set_option maxHeartbeats 4000000 in
theorem rpright_any {D : Dom} {A : Option Addr} {n c e : Nat} {l : List Stp} {w : World} (hs : rpStp.sl w D A n c l) (hD : ∀ k, D k → k < w.heap.size) (he : e ≤ 18446744073709551615) :
    Calls Try.prog 29 #[.agg (prjV e A n c)] w fun en w' => en = .returned (.bool (dec (POk (e, l)))) ∧ Below w.heap.size w w' := by
  obtain ⟨hlen, hnc, hcm⟩ := Rp.sl_len hs
  unfold maxLen at hcm
  subst hlen
  have hb0 : Below w.heap.size w (w.alloc (.cells (prjV e A l.length c) 25)) := (Below.refl _ _).alloc (Nat.le_refl _) _
  have HS := Lib.hid (Rp.sl_below hs hb0 hD)
  have HB0 := Lib.hid hb0
  have HD := Lib.hid (fun k hk => Nat.lt_of_lt_of_le (hD k hk) hb0.size)
  have HK := Lib.hid (Blk.new w 25 (prjV e A l.length c))
  clear hs hD hb0
  have her := fun w => reright_any e w he
  cases hq : dec (EOk e)
  · rw [hq] at her
    have HE := Lib.hid her
    rw [dec_false (fun h : POk (e, l) => of_not_dec hq h.1.1.1)]
    clear her hq
    go_enter Try.func29, Try.ntmps29
    go_wp2_with fail
    refine (HE.out _).mono ?_; rintro en w1 ⟨rfl, rfl⟩
    go_wp2_with fail
    go_ret
    exact ⟨rfl, HB0.out⟩
  rw [hq] at her
  have HE := Lib.hid her
  have HEO := Lib.hid (of_dec hq)
  clear her hq
  by_cases hpre : 1 ≤ l.length ∧ l.length ≤ 64
  case neg =>
    rw [dec_false (fun h : POk (e, l) => hpre h.1.1.2)]
    have hc : l.length < 1 ∨ (1 ≤ l.length ∧ 64 < l.length) := by omega
    clear hpre
    rcases hc with d1 | ⟨d1, d2⟩
    all_goals
      go_enter Try.func29, Try.ntmps29
      go_wp2_with fail
      refine (HE.out _).mono ?_; rintro en w1 ⟨rfl, rfl⟩
      go_wp2_with fail
      go_ret
      exact ⟨rfl, HB0.out⟩
  obtain ⟨d1, d2⟩ := hpre
  have v1 : decide ((l.length : Int) < 1) = false := by simp; omega
  have v2 : decide ((64 : Int) < (l.length : Int)) = false := by simp; omega
  have HP0 : Hid (PUpTo (e, l) 0) := ⟨⟨HEO.out, d1, d2⟩, fun i s h => by omega⟩
  obtain ⟨b0, off0, s0, A0, c0, rfl, hb0, hs0, g00, g01, g02, _, hs01, hs02⟩ := stps_at HS.out (show 0 < l.length by omega)
  rw [Nat.zero_mul, Nat.add_zero] at g00
  have HS0 := Lib.hid hs0
  clear hs0 g01 g02 hb0
  obtain ⟨f0, hf0⟩ : ∃ f0, f0 = s0.1 := ⟨_, rfl⟩
  rw [← hf0] at g00 hs01
  have HF0 := Lib.hid hf0
  clear hf0
  by_cases hz : f0 = 0
  case neg =>
    have hn : ((f0 : Int) != 0) = true := by simp; omega
    have hno := Lib.hid (show ¬ POk (e, l) from fun h => hz (by
      have := (h.1.2 0 s0 (List.getElem?_eq_some_iff.1 HS0.out).1 HS0.out).2
      rw [HF0.out]; exact this))
    rw [dec_false hno.out]
    clear hz
    go_enter Try.func29, Try.ntmps29
    go_wp2_with fail
    refine (HE.out _).mono ?_; rintro en w1 ⟨rfl, rfl⟩
    go_wp2_with fail
    go_ret
    exact ⟨rfl, HB0.out⟩
  subst hz
  obtain ⟨b1, off1, s1, A1, c1, hA1, hb1, hs1, g10, g11, g12, _, hs11, hs12⟩ := stps_at HS.out (show l.length - 1 < l.length by omega)
  injection hA1 with hA1
  injection hA1 with hA1 hA2
  subst hA1; subst hA2
  have HS1 := Lib.hid hs1
  clear hs1 g10 g12 hb1
  obtain ⟨t1, ht1⟩ : ∃ t1, t1 = s1.2.1 := ⟨_, rfl⟩
  rw [← ht1] at g11 hs12
  have HT1 := Lib.hid ht1
  have hn1 : ((l.length : Int) - 1).toNat = l.length - 1 := by omega
  have hn2 : ((l.length - 1 : Nat) : Int) = (l.length : Int) - 1 := by omega
  clear ht1
  by_cases hz : t1 = 4611686018427387904
  case neg =>
    have hn : ((t1 : Int) != 4611686018427387904) = true := by simp; omega
    have hno := Lib.hid (show ¬ POk (e, l) from fun h => hz (by
      have := h.2
      rw [startOf_pos (by exact d1) HS1.out] at this
      rw [HT1.out]; exact this))
    rw [dec_false hno.out]
    clear hz
    go_enter Try.func29, Try.ntmps29
    go_wp2_with fail
    refine (HE.out _).mono ?_; rintro en w1 ⟨rfl, rfl⟩
    go_wp2_with fail
    go_ret
    exact ⟨rfl, HB0.out⟩
  have hn : ((t1 : Int) != 4611686018427387904) = false := by simp; omega
  have HZ := Lib.hid hz
  clear hz
  go_enter Try.func29, Try.ntmps29
  go_wp2_with fail
  refine (HE.out _).mono ?_; rintro en w1 ⟨rfl, rfl⟩
  go_wp2_with fail
  clear g00 g11 hn1 hn2
  generalize World.alloc w _ = w0 at *
  have hz0 := HB0.out.size
  have hkl := (show Blk _ _ _ _ from HK.out).lt
  go_loopw [4] (fun i wr => ∃ (k : Nat), k ≤ l.length ∧ i = .int .i64 k ∧ Hid (PUpTo (e, l) k) ∧ Below w0.heap.size w0 wr) (fun i _ => l.length - (intOf i).toNat)
  case atStart => exact ⟨0, by omega, rfl, HP0, Below.refl _ _⟩
  case round =>
    obtain ⟨k, hk, rfl, hup, hbr⟩ := hrel
    have HBR := Lib.hid hbr
    have hzr := hbr.size
    by_cases hkn : k < l.length
    · obtain ⟨b, off, s, A2, c2, hA, hb, hsk, g0, g1, g2, hrow, hs1, hs2⟩ := stps_at (Rp.sl_below HS.out hbr HD.out) hkn
      injection hA with hA
      injection hA with hA hA2
      subst hA; subst hA2
      have hbl : b0 < wr.heap.size := Nat.lt_of_lt_of_le (HD.out _ hb) hzr
      have HSK := Lib.hid hsk
      have HR := Lib.hid hrow
      have hdk : decide ((k : Int) < (l.length : Int)) = true := by simp; omega
      obtain ⟨sf, hsf⟩ : ∃ sf, sf = s.1 := ⟨_, rfl⟩
      obtain ⟨st, hst2⟩ : ∃ st, st = s.2.1 := ⟨_, rfl⟩
      obtain ⟨sn, hsn⟩ : ∃ sn, sn = s.2.2.length := ⟨_, rfl⟩
      rw [← hsf] at g0 hs1
      rw [← hst2] at g1 hs2
      rw [← hsn] at g2
      have HSF := Lib.hid hsf
      have HST := Lib.hid hst2
      have HSN := Lib.hid hsn
      have gq0 : ∀ q : Gr wr.heap.size wr, q.val.cell? ⟨b0, off0 + k * 3, none⟩ = some (.int .u64 (sf : Int)) := fun q => (q.is.cell (p := ⟨b0, off0 + k * 3, none⟩) hbl).trans g0
      have gq1 : ∀ q : Gr wr.heap.size wr, q.val.cell? ⟨b0, off0 + k * 3 + 1, none⟩ = some (.int .u64 (st : Int)) := fun q => (q.is.cell (p := ⟨b0, off0 + k * 3 + 1, none⟩) hbl).trans g1
      have gq2 : ∀ q : Gr wr.heap.size wr, q.val.cell? ⟨b0, off0 + k * 3 + 2, none⟩ = some (.slice A2 sn c2) := fun q => (q.is.cell (p := ⟨b0, off0 + k * 3 + 2, none⟩) hbl).trans g2
      have hbk := HK.out.below hbr hkl
      have gqk : ∀ q : Gr wr.heap.size wr, q.val.cell? ⟨w.heap.size, 1, none⟩ = some (.slice (some ⟨b0, off0, none⟩) l.length c) := fun q => (Blk.below hbk q.is hbk.lt).cell 1
      have hrt : ∀ q : Gr wr.heap.size wr, _ := fun q => rright_any (f := s.1) (t := s.2.1) (Rp.sl_below HR.out q.is (fun k hk => Nat.lt_of_lt_of_le (HD.out k hk) hzr)) (fun k hk => Nat.lt_of_lt_of_le (Nat.lt_of_lt_of_le (HD.out k hk) hzr) q.is.size) (by rw [← HSF.out]; omega) (by rw [← HST.out]; omega)
      rw [← HSF.out, ← HST.out, ← HSN.out] at hrt
      have hk0 : (0 : Int) ≤ (k : Int) := by omega
      have hk1 : (k : Int) < (l.length : Int) := by omega
      clear hsk hrow hbr hsf hst2 hsn hbk g0 g1 g2
      cases hq : dec (SOk (sf, st, s.2.2))
      · rw [hq] at hrt
        have HRT := Lib.hid hrt
        have hno := Lib.hid (show ¬ POk (e, l) from fun h => of_not_dec hq (by
          have := (h.1.2 k s (List.getElem?_eq_some_iff.1 HSK.out).1 HSK.out).1
          rw [HSF.out, HST.out]; exact this))
        clear hrt hq
        go_wp2_with fail
        refine wp_region_grow (by kernel_rfl) (by kernel_rfl) wr.heap.size ?_
        repeat (first | go_big_quiet_step (((go_at_call 46; exact Gr.call _ (Nat.le_refl _) (HRT.out _)))) | quiet_step (((go_at_call 46; exact Gr.call _ (Nat.le_refl _) (HRT.out _)))))
        refine wpQuiet_nil ?_
        rintro w3 ⟨⟨_, hb3⟩, rfl⟩
        clear gq0 gq1 gq2 gqk
        go_wp2_with fail
        go_ret
        rw [dec_false hno.out]
        exact ⟨rfl, HB0.out.trans ((HBR.out.trans (hb3.mono hzr)).mono hz0)⟩
      · rw [hq] at hrt
        have HRT := Lib.hid hrt
        have HOK := Lib.hid (of_dec hq)
        clear hrt hq
        by_cases hkz : k = 0
        · have hd0 : decide (0 < k) = false := by simp; omega
          have hd1 : decide ((0 : Int) < (k : Int)) = false := by simp; omega
          have HKZ := Lib.hid hkz
          clear hkz
          go_wp2_with fail
          refine wp_region_grow (by kernel_rfl) (by kernel_rfl) wr.heap.size ?_
          repeat (first | go_big_quiet_step (((go_at_call 46; exact Gr.call _ (Nat.le_refl _) (HRT.out _)))) | quiet_step (((go_at_call 46; exact Gr.call _ (Nat.le_refl _) (HRT.out _)))))
          refine wpQuiet_nil ?_
          rintro w3 ⟨⟨_, hb3⟩, rfl⟩
          clear gq0 gq1 gq2 gqk
          go_wp2_with fail
          go_roundw
          case rel =>
            refine ⟨k + 1, by omega, by go_num, (pUpTo_succ HSK.out).2 ⟨hup.out, ?_, ?_⟩, HBR.out.trans (hb3.mono hzr)⟩
            · have := HOK.out
              rw [HSF.out, HST.out] at this
              exact this
            · have h0 := HS0.out
              rw [← HKZ.out, HSK.out] at h0
              injection h0 with h0
              rw [h0, HKZ.out, ← HF0.out]; rfl
          case measure => simp [intOf]; omega
        · have hd0 : decide (0 < k) = true := by simp; omega
          have hd1 : decide ((0 : Int) < (k : Int)) = true := by simp; omega
          obtain ⟨b9, off9, s9, A9, c9, hA9, hb9, hs9, g90, g91, g92, _, hs91, hs92⟩ := stps_at (Rp.sl_below HS.out HBR.out HD.out) (show k - 1 < l.length by omega)
          injection hA9 with hA9
          injection hA9 with hA9 hA99
          subst hA9; subst hA99
          obtain ⟨t9, ht9⟩ : ∃ t9, t9 = s9.2.1 := ⟨_, rfl⟩
          rw [← ht9] at g91 hs92
          have HT9 := Lib.hid ht9
          have HS9 := Lib.hid hs9
          have gq9 : ∀ q : Gr wr.heap.size wr, q.val.cell? ⟨b0, off0 + (k - 1) * 3 + 1, none⟩ = some (.int .u64 (t9 : Int)) := fun q => (q.is.cell (p := ⟨b0, off0 + (k - 1) * 3 + 1, none⟩) hbl).trans g91
          have m1 : IntKind.i64.wrap ((k : Int) - 1) = (k : Int) - 1 := IntWalk.i64_in _ (by omega)
          have m2 : (0 : Int) ≤ (k : Int) - 1 := by omega
          have m3 : (k : Int) - 1 < (l.length : Int) := by omega
          have m4 : ((k : Int) - 1).toNat = k - 1 := by omega
          have HKZ := Lib.hid (show 0 < k by omega)
          clear hkz ht9 hs9 g90 g91 g92
          by_cases hne : sf = t9
          · have hdn : ((sf : Int) != (t9 : Int)) = false := by simp; omega
            have HNE := Lib.hid hne
            clear hne
            go_wp2_with fail
            refine wp_region_grow (by kernel_rfl) (by kernel_rfl) wr.heap.size ?_
            repeat (first | go_big_quiet_step (((go_at_call 46; exact Gr.call _ (Nat.le_refl _) (HRT.out _)))) | quiet_step (((go_at_call 46; exact Gr.call _ (Nat.le_refl _) (HRT.out _)))))
            refine wpQuiet_nil ?_
            rintro w3 ⟨⟨_, hb3⟩, rfl⟩
            clear gq0 gq1 gq2 gqk gq9 m1 m4
            go_wp2_with fail
            go_roundw
            case rel =>
              refine ⟨k + 1, by omega, by go_num, (pUpTo_succ HSK.out).2 ⟨hup.out, ?_, ?_⟩, HBR.out.trans (hb3.mono hzr)⟩
              · have := HOK.out
                rw [HSF.out, HST.out] at this
                exact this
              · show s.1 = startOf l k
                rw [← HSF.out, startOf_pos HKZ.out HS9.out, HNE.out, HT9.out]
            case measure => simp [intOf]; omega
          · have hdn : ((sf : Int) != (t9 : Int)) = true := by simp; omega
            have hno := Lib.hid (show ¬ POk (e, l) from fun h => hne (by
              have := (h.1.2 k s (List.getElem?_eq_some_iff.1 HSK.out).1 HSK.out).2
              rw [startOf_pos HKZ.out HS9.out] at this
              rw [HSF.out, HT9.out]; exact this))
            clear hne
            go_wp2_with fail
            refine wp_region_grow (by kernel_rfl) (by kernel_rfl) wr.heap.size ?_
            repeat (first | go_big_quiet_step (((go_at_call 46; exact Gr.call _ (Nat.le_refl _) (HRT.out _)))) | quiet_step (((go_at_call 46; exact Gr.call _ (Nat.le_refl _) (HRT.out _)))))
            refine wpQuiet_nil ?_
            rintro w3 ⟨⟨_, hb3⟩, rfl⟩
            clear gq0 gq1 gq2 gqk gq9 m1 m4
            go_wp2_with fail
            go_ret
            rw [dec_false hno.out]
            exact ⟨rfl, HB0.out.trans ((HBR.out.trans (hb3.mono hzr)).mono hz0)⟩
    · obtain rfl : k = l.length := by omega
      have hdk : decide ((l.length : Int) < (l.length : Int)) = false := by simp
      clear hbr
      have hyes := Lib.hid (show POk (e, l) from ⟨hup.out, by
        show startOf l l.length = _
        rw [startOf_pos (by omega) HS1.out, ← HT1.out]; exact HZ.out⟩)
      go_wp2_with fail
      go_ret
      rw [dec_true hyes.out]
      exact ⟨rfl, HB0.out.trans (HBR.out.mono hz0)⟩

def AnyBool (w : World) (e : Ending) (w' : World) : Prop := ∃ b : Bool, e = .returned (.bool b) ∧ Below w.heap.size w w'
theorem plong_any {D : Dom} {A : Option Addr} {n c e : Nat} {l : List Stp} {w : World} (hs : rpStp.sl w D A n c l) (hD : ∀ k, D k → k < w.heap.size) :
    Calls Try.prog 16 #[.agg (prjV e A n c)] w (AnyBool w) := by
  obtain ⟨hlen, hnc, hcm⟩ := Rp.sl_len hs
  unfold maxLen at hcm
  subst hlen
  have hb0 : Below w.heap.size w (w.alloc (.cells (prjV e A l.length c) 25)) := (Below.refl _ _).alloc (Nat.le_refl _) _
  have HS := Lib.hid (Rp.sl_below hs hb0 hD)
  have HB0 := Lib.hid hb0
  have HD := Lib.hid (fun k hk => Nat.lt_of_lt_of_le (hD k hk) hb0.size)
  have HK := Lib.hid (Blk.new w 25 (prjV e A l.length c))
  clear hs hD hb0
  go_enter Try.func16, Try.ntmps16
  go_wp2_with fail
  generalize World.alloc w _ = w0 at *
  have hz0 := HB0.out.size
  have hkl := (show Blk _ _ _ _ from HK.out).lt
  go_loopw [3] (fun i wr => ∃ k : Nat, k ≤ l.length ∧ k ≤ 70 ∧ i = .int .i64 k ∧ Below w0.heap.size w0 wr) (fun i _ => l.length - (intOf i).toNat)
  case atStart => exact ⟨0, by omega, by omega, rfl, Below.refl _ _⟩
  case round =>
    obtain ⟨k, hk, hk70, rfl, hbr⟩ := hrel
    have HBR := Lib.hid hbr
    have hzr := hbr.size
    have hbk := HK.out.below hbr hkl
    have gk : wr.cell? ⟨w.heap.size, 1, none⟩ = some (.slice A l.length c) := hbk.cell 1
    clear hbk
    by_cases hin : k < l.length ∧ k < 70
    · obtain ⟨h1, h2⟩ := hin
      obtain ⟨b, off, s, A2, c2, rfl, hb, hsk, g0, g1, g2, hrow, hs1, hs2⟩ := stps_at (Rp.sl_below HS.out hbr HD.out) h1
      have HR := Lib.hid hrow
      have hd1 : decide ((k : Int) < (l.length : Int)) = true := by simp; omega
      have hd2 : decide ((k : Int) < 70) = true := by simp; omega
      clear hrow hsk hbr
      go_wp2_with fail
      refine (long_any HR.out (fun k hk => Nat.lt_of_lt_of_le (HD.out k hk) hzr)).mono ?_; rintro en w1 ⟨bb, rfl, _, hb1⟩
      clear g0 g1 g2 gk
      cases bb
      · go_wp2_with fail
        go_roundw
        case rel => exact ⟨k + 1, by omega, by omega, by go_num, HBR.out.trans (hb1.mono hzr)⟩
        case measure => simp [intOf]; omega
      · go_wp2_with fail
        go_ret
        exact ⟨true, rfl, HB0.out.trans ((HBR.out.trans (hb1.mono hzr)).mono hz0)⟩
    · have hc : k = l.length ∨ (k < l.length ∧ k = 70) := by omega
      clear hin hbr
      rcases hc with rfl | ⟨h1, rfl⟩
      · have hd1 : decide ((l.length : Int) < (l.length : Int)) = false := by simp
        go_wp2_with fail
        go_ret
        exact ⟨_, rfl, HB0.out.trans (HBR.out.mono hz0)⟩
      · have hd1 : decide ((70 : Int) < (l.length : Int)) = true := by simp; omega
        go_wp2_with fail
        go_ret
        exact ⟨_, rfl, HB0.out.trans (HBR.out.mono hz0)⟩
end Go.Proofs.Ytmdgmnaaopineaa
