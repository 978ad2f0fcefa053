/-
  The law of this claim, part 7 of its proof: the parts PrR, PrS, PrT, StrZ, PrK, StrY, PrU.
-/
import Derived.Deep.DeepCutAuto
import Derived.Deep.CutBlock
import Derived.RegionTactic
import Derived.Deep.RegionWith
import Derived.Test.YtmdgmnaaopineaaQPR6
/- proj.Read. -/
namespace Go.Proofs.Ytmdgmnaaopineaa
open Go.ChangeShapes Go.WideShapes Go.ChangeAt Go.RowKit
set_option linter.unusedVariables false
theorem strF_bad {l : List UInt8} {p fr : Nat} {f : Flt} (h : f.1 ≠ 0) : (strF l p f fr).2 = (p, f) := by
  have h1 := vrdF_bad (l := l) (p := p) h
  unfold strF
  split
  · show (p, failF f 3 p) = (p, f)
    unfold failF; rw [if_neg h]
  · rw [h1, if_neg (by rintro ⟨hh, _⟩; exact h hh)]
    simp only
    rw [manyF_bad h]
    simp only [setsF]
    exact congrArg Prod.snd (if_neg h)
theorem strF_to {l : List UInt8} {p fr : Nat} {f : Flt} : (strF l p f fr).1.1 ≤ 4611686018427387904 ∧ (strF l p f fr).1.2.1 ≤ 4611686018427387904 := by
  unfold strF
  split
  · exact ⟨Nat.zero_le _, Nat.zero_le _⟩
  · rename_i h1
    split
    · exact ⟨Nat.zero_le _, Nat.zero_le _⟩
    · rename_i h2
      simp only
      split
      · rename_i h3
        by_cases hv : (vrdF l p f).2.2.1 = 0
        · refine ⟨by show fr ≤ _; omega, ?_⟩
          show fr + (vrdF l p f).1 + 1 ≤ _
          have : ¬ 4611686018427387904 - fr ≤ (vrdF l p f).1 := fun hh => h2 ⟨hv, hh⟩
          omega
        · exfalso
          rw [manyF_bad hv] at h3
          exact hv h3
      · exact ⟨Nat.zero_le _, Nat.zero_le _⟩
/-- So many stripes are still to be read: what comes of it. -/
def StF (l : List UInt8) (R : List Stp × Nat × Flt × Nat) (k p : Nat) (f : Flt) (fr : Nat) (acc : List Stp) : Prop :=
  (f.1 = 0 → stsF l k p f fr acc = R) ∧ (f.1 ≠ 0 → R.2.1 = p ∧ R.2.2.1 = f)
theorem StF.next {l : List UInt8} {R : List Stp × Nat × Flt × Nat} {k p fr : Nat} {f : Flt} {acc : List Stp} (h : StF l R (k + 1) p f fr acc) : StF l R k (strF l p f fr).2.1 (strF l p f fr).2.2 (strF l p f fr).1.2.1 (acc ++ [(strF l p f fr).1]) := by
  by_cases h0 : f.1 = 0
  · have h1 := h.1 h0
    by_cases h2 : (strF l p f fr).2.2.1 = 0
    · rw [stsF_step h2] at h1
      exact ⟨fun _ => h1, fun h3 => absurd h2 h3⟩
    · rw [stsF_stop h2] at h1
      exact ⟨fun h3 => absurd h3 h2, fun _ => by rw [← h1]; exact ⟨rfl, rfl⟩⟩
  · have h1 := h.2 h0
    rw [strF_bad h0]
    exact ⟨fun h3 => absurd h3 h0, fun _ => h1⟩
theorem StF.last {l : List UInt8} {R : List Stp × Nat × Flt × Nat} {p fr : Nat} {f : Flt} {acc : List Stp} (h : StF l R 0 p f fr acc) : R.2.1 = p ∧ endFr R.2.1 R.2.2.1 R.2.2.2 = endFr p f fr ∧ ((endFr p f fr).1 = 0 → R.1 = acc) := by
  by_cases h0 : f.1 = 0
  · have h1 := h.1 h0
    rw [← h1]
    exact ⟨rfl, rfl, fun _ => rfl⟩
  · obtain ⟨h1, h2⟩ := h.2 h0
    have key : ∀ q : Nat, endFr p f q = f := fun q => by
      unfold endFr failF
      split
      · rfl
      · first | rfl | rw [if_neg h0]
    rw [h1, h2, key, key]
    exact ⟨rfl, rfl, fun h3 => absurd h3 h0⟩
def PrIs (w : World) (D : Dom) (g : Nat) (l : List UInt8) (r : Prj × Nat × Flt) (e : Ending) (w' : World) : Prop :=
  ∃ A n c, e = .returned (.agg (prjV r.1.1 A n c)) ∧ OS w' w.heap.size A n c r.1.2 ∧ Rd w' D g l r.2.1 r.2.2 ∧ Chg (one g) w w'
theorem OS.chgR {w w' : World} {base n c g p : Nat} {A : Option Addr} {st : List Stp} {D : Dom} {l : List UInt8} {f : Flt} (h : OS w base A n c st) (hr : Rd w D g l p f) (hc : Chg (one g) w w') : OS w' base A n c st :=
  h.chg hc (fun k hk _ => ⟨id, fun cs t ht => by
    have hk' : k = g := hk
    subst hk'
    obtain ⟨A', c', hb, _⟩ := hr
    obtain rfl := blk_type hb ht
    exact ⟨by unfold TSs; decide, by decide⟩⟩)
section
variable {w : World} {D : Dom} {g : Nat} {l : List UInt8} {p : Nat} {f : Flt}
set_option maxRecDepth 100000 in
set_option maxHeartbeats 4000000 in
theorem prread_any (h : Rd w D g l p f) (hf : OkF f) (hl : l.length ≤ 1000000000) :
    Calls Try.prog 59 #[.pointer (some ⟨g, 0, none⟩)] w (PrIs w D g l (prjF l p f)) := by
  have H : Hid ((Try.prog.info? 25).map (·.size) = some 2) := by unfold Hid; kernel_rfl
  have hb := below1 w (.cells (prjV 0 none 0 0) 25)
  have HE := Lib.hid (eread_any (h.below hb) hf hl)
  have HR0 := Lib.hid (blk11 w 25 (prjV 0 none 0 0))
  have HB0 := Lib.hid hb
  have hgl := h.lt
  have hDw := h.dom
  obtain ⟨R, hR⟩ : ∃ R, R = prjS l p f := ⟨_, rfl⟩
  have hres : prjF l p f = if (endFr R.2.1 R.2.2.1 R.2.2.2).1 = 0 then (((mustF isEpoch l p f).1, R.1), R.2.1, endFr R.2.1 R.2.2.1 R.2.2.2) else ((0, []), R.2.1, endFr R.2.1 R.2.2.1 R.2.2.2) := by
    rw [hR]; rfl
  obtain ⟨Z, hZ⟩ : ∃ Z, Z = prjF l p f := ⟨_, rfl⟩
  rw [← hZ] at hres ⊢
  have hRR : R = stsF l (prjM l p f).1 (prjM l p f).2.1 (prjM l p f).2.2 0 [] := hR
  have hmm : prjM l p f = manyF l (mustF isEpoch l p f).2.1 (mustF isEpoch l p f).2.2 64 := rfl
  have hok1 : OkF (mustF isEpoch l p f).2.2 := mustF_ok hf
  have hx64 : (mustF isEpoch l p f).1 < 18446744073709551616 := mustF_lt _ _ _ _
  generalize prjM l p f = M at *
  generalize mustF isEpoch l p f = E at *
  obtain ⟨x, p1, f1⟩ := E
  simp only at HE hmm hok1 hx64 hres
  have HRES := Lib.hid hres
  have HMM := Lib.hid hmm
  have HRR := Lib.hid hRR
  have HOK1 := Lib.hid hok1
  clear h hf hb hR hres hRR hmm hok1 hZ
  go_enter Try.func59, Try.ntmps59
  go_wp2_with fail
  generalize World.alloc w _ = w0 at *
  have hl0 := (show Blk w0 w.heap.size 25 _ from HR0.out).lt
  have hz0 := HB0.out.size
  refine HE.out.mono ?_; rintro en w1 ⟨rfl, hr1, hc1⟩
  obtain ⟨gp, hgp⟩ : ∃ gp, gp = w1.heap.size := ⟨_, rfl⟩
  have hba := below1 w1 (.cells (prjV x none 0 0) 25)
  have HR2 := Lib.hid (hr1.below hba)
  have hngw : ¬ one g w.heap.size := fun e => by have e : w.heap.size = g := e; omega
  have HC2 := Lib.hid (((Chg.of_pure HB0.out (one g)).trans hc1).trans (Chg.of_pure hba (one g)))
  have HK2 := Lib.hid (keepB (chB (show Blk w0 w.heap.size 25 _ from HR0.out) hc1 hngw) hba)
  have HG2 := Lib.hid (blk11 w1 25 (prjV x none 0 0))
  have hz1 := hc1.size
  rw [← hgp] at HG2
  have HGP := Lib.hid hgp
  have hgp1 : w0.heap.size ≤ gp := by omega
  clear hr1 hc1 hba hgp
  go_upto_region 2 with (fail)
  try rw [← HGP.out]
  generalize World.alloc w1 _ = w2 at *
  go_wp2_with fail
  refine (cat_at HR2.out).mono ?_; rintro en wx ⟨rfl, rfl⟩
  go_wp2_with fail
  refine (vint_at HR2.out HOK1.out hl 64 (by decide)).mono ?_; rintro en w3 ⟨rfl, hr3, hc3⟩
  have hle := mostF_le (l := l) (p := p1) (f := f1) (m := 64)
  have HMM2 : Hid (M = if (mostF l p1 f1 64).1 = 0 then (0, (mostF l p1 f1 64).2.1, failF (mostF l p1 f1 64).2.2 3 p1) else mostF l p1 f1 64) := by
    have := HMM.out
    unfold manyF at this
    exact this
  have hok2 := mostF_ok (l := l) (p := p1) 64 HOK1.out
  have hff0 : (mostF l p1 f1 64).2.2.1 ≠ 0 → (mostF l p1 f1 64).1 = 0 := fun h => mostF_fail0 h
  generalize mostF l p1 f1 64 = Y at *
  obtain ⟨y, q, F⟩ := Y
  simp only at hr3 hle HMM2 hok2 hff0
  have HFF0 := Lib.hid hff0
  have HDW := Lib.hid hDw
  have HNGP : Hid (¬ one g gp) := fun e => by have e : gp = g := e; omega
  have HNGW := Lib.hid hngw
  have HR3 := Lib.hid hr3
  have HC3 := Lib.hid (HC2.out.trans hc3)
  have HK3 := Lib.hid (chB (show Blk w2 w.heap.size 25 _ from HK2.out) hc3 HNGW.out)
  have HG3 := Lib.hid (chB (show Blk w2 gp 25 _ from HG2.out) hc3 HNGP.out)
  have HOK2 := Lib.hid hok2
  clear hr3 hc3 HR2 HC2 HK2 HG2 hok2 hDw hngw HMM hff0
  by_cases h0 : y = 0
  case pos =>
    subst h0
    have hM : M = (0, q, failF F 3 p1) := by have := HMM2.out; rw [if_pos rfl] at this; exact this
    have HM := Lib.hid hM
    have HST0 : Hid (StF l R (0 - 0) M.2.1 M.2.2 0 []) := ⟨fun _ => by rw [HRR.out, HM.out], fun _ => by rw [HRR.out, HM.out]; exact ⟨rfl, rfl⟩⟩
    have OKM : Hid (OkF M.2.2) := by rw [hM]; exact HOK2.out.fail _ _
    clear hM HMM2
    go_wp2_with fail
    refine (cfail_at HR3.out 3 _).mono ?_; rintro en w4 ⟨rfl, hr4, hc4⟩
    have RDL : Hid (Rd w4 D g l M.2.1 M.2.2) := by rw [HM.out]; exact hr4
    have CHL := Lib.hid (HC3.out.trans hc4)
    have KRL := Lib.hid (chB (show Blk w3 w.heap.size 25 _ from HK3.out) hc4 HNGW.out)
    have GPL := Lib.hid (chB (show Blk w3 gp 25 _ from HG3.out) hc4 HNGP.out)
    clear hr4 hc4
    go_wp2_with fail
    go_loopw [6, 21] (fun fv i wr => ∃ (k fr pe : Nat) (fe : Flt) (As : Option Addr) (cs : Nat) (acc : List Stp), k ≤ 0 ∧ i = .int .i64 k ∧ fv = .int .u64 (fr : Int) ∧ fr ≤ 18446744073709551615 ∧ Hid (Rd wr D g l pe fe) ∧ Hid (OkF fe) ∧ Hid (Blk wr gp 25 (prjV x As k cs)) ∧ Hid (OS wr w.heap.size As k cs acc) ∧ Hid (Blk wr w.heap.size 25 (prjV 0 none 0 0)) ∧ Hid (Chg (one g) w wr) ∧ Hid (StF l R (0 - k) pe fe fr acc)) (fun _ i _ => 0 - (intOf i).toNat)
    case atStart => exact ⟨0, 0, M.2.1, M.2.2, none, 0, [], by omega, rfl, rfl, by omega, RDL.out, OKM.out, GPL.out, OL.nil _ _ _ _ _ _, KRL.out, CHL.out, HST0.out⟩
    case round =>
      clear RDL GPL KRL CHL HST0 OKM
      obtain ⟨k, fre, pe, fe, As, cs, acc, hk, rfl, rfl, hfre, RD, OKE, GP, OSL, KR, CH, HST⟩ := hrel
      have hzc := CH.out.size
      obtain rfl : k = 0 := by omega
      have hd : decide ((0 : Int) < (0 : Int)) = false := by decide
      have hst0 := HST.out.last
      have hq1 := hst0.1
      have hq2 := hst0.2.1
      have HQ3 := Lib.hid hst0.2.2
      have HRES2 : Hid (Z = if (endFr pe fe fre).1 = 0 then ((x, R.1), pe, endFr pe fe fre) else ((0, []), pe, endFr pe fe fre)) := by
        have := HRES.out
        rw [hq1, ← hq1, hq2, hq1] at this
        exact this
      clear hst0 hq1 hq2
      by_cases hmx : fre = 4611686018427387904
      case pos =>
        have hd2 : ((fre : Int) != 4611686018427387904) = false := by simp; omega
        have HEF : Hid (endFr pe fe fre = fe) := if_pos hmx
        clear hmx
        go_wp2_with fail
        refine (cgood_at RD.out).mono ?_; rintro en wa ⟨rfl, hba⟩
        have GPA := Lib.hid (keepB (show Blk wr gp 25 _ from GP.out) hba)
        have KRA := Lib.hid (keepB (show Blk wr w.heap.size 25 _ from KR.out) hba)
        have OSA := Lib.hid ((show OS wr w.heap.size As 0 cs acc from OSL.out).below hba)
        have CHA := Lib.hid (CH.out.trans (Chg.of_pure hba (one g)))
        have RDA := Lib.hid (keepR RD.out hba)
        have OKX := Lib.hid (OKE.out)
        clear hba
        by_cases hgd : fe.1 = 0
        case pos =>
          have hd3 : (fe.1 == 0) = true := by simp; exact hgd
          have HZ : Hid (Z = ((x, acc), pe, fe)) := by
            have := HRES2.out
            rw [HEF.out, if_pos hgd, HQ3.out (by rw [HEF.out]; exact hgd)] at this
            exact this
          clear hgd
          have g0 := (show Blk wa gp 25 _ from GPA.out).cell 0
          have g1 := (show Blk wa gp 25 _ from GPA.out).cell 1
          go_wp2_with (refine wpList_put_row rfl 25 (.tmp 2) (.tmp 45) rfl w.heap.size _ rfl rfl 25 _ (show Blk _ _ _ _ from KRA.out) H.out rfl (by simp [Value.oneCell']) ?_; intro w9 hblk hgr)
          have hl9 := (show OS wa w.heap.size As 0 cs acc from OSA.out).grown (show Blk _ _ _ _ from KRA.out) id tss_prj (by decide) hgr
          have hr9 := rdGrown RDA.out hgr (by simp; omega) (fun k hk => by have := HDW.out k hk; simp; omega)
          have hc9 := chGrown CHA.out hgr (fun k hk => by injection hk with hk; omega)
          refine bodyPost_ret (results_cell_row rfl _ _ w.heap.size 25 _ (0, 0) _ rfl hblk Try.underlying25 rfl H.out) rfl ?_
          rw [HZ.out]
          exact ⟨As, 0, cs, rfl, hl9, hr9, hc9⟩
        case neg =>
          have hd3 : (fe.1 == 0) = false := by simp; exact hgd
          have HZ : Hid (Z = ((0, []), pe, fe)) := by
            have := HRES2.out
            rw [HEF.out, if_neg hgd] at this
            exact this
          clear hgd
          go_wp2_with (refine wpList_put_row rfl 25 (.tmp 2) (.tmp 44) rfl w.heap.size _ rfl rfl 25 _ (show Blk _ _ _ _ from KRA.out) H.out rfl (by simp [Value.oneCell']) ?_; intro w9 hblk hgr)
          have hr9 := rdGrown RDA.out hgr (by simp; omega) (fun k hk => by have := HDW.out k hk; simp; omega)
          have hc9 := chGrown CHA.out hgr (fun k hk => by injection hk with hk; omega)
          refine bodyPost_ret (results_cell_row rfl _ _ w.heap.size 25 _ (0, 0) _ rfl hblk Try.underlying25 rfl H.out) rfl ?_
          rw [HZ.out]
          exact ⟨none, 0, 0, rfl, OL.nil _ _ _ _ _ _, hr9, hc9⟩
      case neg =>
        have hd2 : ((fre : Int) != 4611686018427387904) = true := by simp; omega
        have HEF : Hid (endFr pe fe fre = failF fe 3 pe) := if_neg hmx
        clear hmx
        go_wp2_with fail
        refine (cat_at RD.out).mono ?_; rintro en wx ⟨rfl, rfl⟩
        go_wp2_with fail
        refine (cfail_at RD.out 3 _).mono ?_; rintro en wf ⟨rfl, hrf, hcf⟩
        have GPF := Lib.hid (chB (show Blk wr gp 25 _ from GP.out) hcf HNGP.out)
        have KRF := Lib.hid (chB (show Blk wr w.heap.size 25 _ from KR.out) hcf HNGW.out)
        have OSF := Lib.hid (OS.chgR OSL.out RD.out hcf)
        have CHF := Lib.hid (CH.out.trans hcf)
        have RDF := Lib.hid hrf
        clear hrf hcf
        go_wp2_with fail
        refine (cgood_at RDF.out).mono ?_; rintro en wa ⟨rfl, hba⟩
        have GPA := Lib.hid (keepB (show Blk wf gp 25 _ from GPF.out) hba)
        have KRA := Lib.hid (keepB (show Blk wf w.heap.size 25 _ from KRF.out) hba)
        have OSA := Lib.hid ((show OS wf w.heap.size As 0 cs acc from OSF.out).below hba)
        have CHA := Lib.hid (CHF.out.trans (Chg.of_pure hba (one g)))
        have RDA := Lib.hid (keepR RDF.out hba)
        have OKX := Lib.hid ((OKE.out.fail 3 (pe : Int)))
        clear hba
        by_cases hgd : (failF fe 3 (pe : Int)).1 = 0
        case pos =>
          have hd3 : ((failF fe 3 (pe : Int)).1 == 0) = true := by simp; exact hgd
          have HZ : Hid (Z = ((x, acc), pe, (failF fe 3 (pe : Int)))) := by
            have := HRES2.out
            rw [HEF.out, if_pos hgd, HQ3.out (by rw [HEF.out]; exact hgd)] at this
            exact this
          clear hgd
          have g0 := (show Blk wa gp 25 _ from GPA.out).cell 0
          have g1 := (show Blk wa gp 25 _ from GPA.out).cell 1
          go_wp2_with (refine wpList_put_row rfl 25 (.tmp 2) (.tmp 45) rfl w.heap.size _ rfl rfl 25 _ (show Blk _ _ _ _ from KRA.out) H.out rfl (by simp [Value.oneCell']) ?_; intro w9 hblk hgr)
          have hl9 := (show OS wa w.heap.size As 0 cs acc from OSA.out).grown (show Blk _ _ _ _ from KRA.out) id tss_prj (by decide) hgr
          have hr9 := rdGrown RDA.out hgr (by simp; omega) (fun k hk => by have := HDW.out k hk; simp; omega)
          have hc9 := chGrown CHA.out hgr (fun k hk => by injection hk with hk; omega)
          refine bodyPost_ret (results_cell_row rfl _ _ w.heap.size 25 _ (0, 0) _ rfl hblk Try.underlying25 rfl H.out) rfl ?_
          rw [HZ.out]
          exact ⟨As, 0, cs, rfl, hl9, hr9, hc9⟩
        case neg =>
          have hd3 : ((failF fe 3 (pe : Int)).1 == 0) = false := by simp; exact hgd
          have HZ : Hid (Z = ((0, []), pe, (failF fe 3 (pe : Int)))) := by
            have := HRES2.out
            rw [HEF.out, if_neg hgd] at this
            exact this
          clear hgd
          go_wp2_with (refine wpList_put_row rfl 25 (.tmp 2) (.tmp 44) rfl w.heap.size _ rfl rfl 25 _ (show Blk _ _ _ _ from KRA.out) H.out rfl (by simp [Value.oneCell']) ?_; intro w9 hblk hgr)
          have hr9 := rdGrown RDA.out hgr (by simp; omega) (fun k hk => by have := HDW.out k hk; simp; omega)
          have hc9 := chGrown CHA.out hgr (fun k hk => by injection hk with hk; omega)
          refine bodyPost_ret (results_cell_row rfl _ _ w.heap.size 25 _ (0, 0) _ rfl hblk Try.underlying25 rfl H.out) rfl ?_
          rw [HZ.out]
          exact ⟨none, 0, 0, rfl, OL.nil _ _ _ _ _ _, hr9, hc9⟩

  case neg =>
    have hd0 : ((y : Int) == 0) = false := by simp; omega
    have hM : M = (y, q, F) := by have := HMM2.out; rw [if_neg h0] at this; exact this
    have HM := Lib.hid hM
    have HST0 : Hid (StF l R (y - 0) M.2.1 M.2.2 0 []) := ⟨fun _ => by rw [HRR.out, HM.out]; rfl, fun h => by
      exfalso
      rw [HM.out] at h
      exact h0 (HFF0.out h)⟩
    have OKM : Hid (OkF M.2.2) := by rw [hM]; exact HOK2.out
    have RDL : Hid (Rd w3 D g l M.2.1 M.2.2) := by rw [hM]; exact HR3.out
    have CHL := HC3
    have KRL := HK3
    have GPL := HG3
    clear hM HMM2 h0
    go_wp2_with fail
    go_loopw [6, 21] (fun fv i wr => ∃ (k fr pe : Nat) (fe : Flt) (As : Option Addr) (cs : Nat) (acc : List Stp), k ≤ y ∧ i = .int .i64 k ∧ fv = .int .u64 (fr : Int) ∧ fr ≤ 18446744073709551615 ∧ Hid (Rd wr D g l pe fe) ∧ Hid (OkF fe) ∧ Hid (Blk wr gp 25 (prjV x As k cs)) ∧ Hid (OS wr w.heap.size As k cs acc) ∧ Hid (Blk wr w.heap.size 25 (prjV 0 none 0 0)) ∧ Hid (Chg (one g) w wr) ∧ Hid (StF l R (y - k) pe fe fr acc)) (fun _ i _ => y - (intOf i).toNat)
    case atStart => exact ⟨0, 0, M.2.1, M.2.2, none, 0, [], by omega, rfl, rfl, by omega, RDL.out, OKM.out, GPL.out, OL.nil _ _ _ _ _ _, KRL.out, CHL.out, HST0.out⟩
    case round =>
      clear RDL GPL KRL CHL HST0 OKM
      obtain ⟨k, fre, pe, fe, As, cs, acc, hk, rfl, rfl, hfre, RD, OKE, GP, OSL, KR, CH, HST⟩ := hrel
      have hzc := CH.out.size
      by_cases hkn : k < y
      case neg =>
        obtain rfl : y = k := by omega
        rw [Nat.sub_self] at HST
        have hd : decide ((y : Int) < (y : Int)) = false := by simp
        have hst0 := HST.out.last
        have hq1 := hst0.1
        have hq2 := hst0.2.1
        have HQ3 := Lib.hid hst0.2.2
        have HRES2 : Hid (Z = if (endFr pe fe fre).1 = 0 then ((x, R.1), pe, endFr pe fe fre) else ((0, []), pe, endFr pe fe fre)) := by
          have := HRES.out
          rw [hq1, ← hq1, hq2, hq1] at this
          exact this
        clear hst0 hq1 hq2
        by_cases hmx : fre = 4611686018427387904
        case pos =>
          have hd2 : ((fre : Int) != 4611686018427387904) = false := by simp; omega
          have HEF : Hid (endFr pe fe fre = fe) := if_pos hmx
          clear hmx
          go_wp2_with fail
          refine (cgood_at RD.out).mono ?_; rintro en wa ⟨rfl, hba⟩
          have GPA := Lib.hid (keepB (show Blk wr gp 25 _ from GP.out) hba)
          have KRA := Lib.hid (keepB (show Blk wr w.heap.size 25 _ from KR.out) hba)
          have OSA := Lib.hid ((show OS wr w.heap.size As y cs acc from OSL.out).below hba)
          have CHA := Lib.hid (CH.out.trans (Chg.of_pure hba (one g)))
          have RDA := Lib.hid (keepR RD.out hba)
          have OKX := Lib.hid (OKE.out)
          clear hba
          by_cases hgd : fe.1 = 0
          case pos =>
            have hd3 : (fe.1 == 0) = true := by simp; exact hgd
            have HZ : Hid (Z = ((x, acc), pe, fe)) := by
              have := HRES2.out
              rw [HEF.out, if_pos hgd, HQ3.out (by rw [HEF.out]; exact hgd)] at this
              exact this
            clear hgd
            have g0 := (show Blk wa gp 25 _ from GPA.out).cell 0
            have g1 := (show Blk wa gp 25 _ from GPA.out).cell 1
            go_wp2_with (refine wpList_put_row rfl 25 (.tmp 2) (.tmp 45) rfl w.heap.size _ rfl rfl 25 _ (show Blk _ _ _ _ from KRA.out) H.out rfl (by simp [Value.oneCell']) ?_; intro w9 hblk hgr)
            have hl9 := (show OS wa w.heap.size As y cs acc from OSA.out).grown (show Blk _ _ _ _ from KRA.out) id tss_prj (by decide) hgr
            have hr9 := rdGrown RDA.out hgr (by simp; omega) (fun k hk => by have := HDW.out k hk; simp; omega)
            have hc9 := chGrown CHA.out hgr (fun k hk => by injection hk with hk; omega)
            refine bodyPost_ret (results_cell_row rfl _ _ w.heap.size 25 _ (0, 0) _ rfl hblk Try.underlying25 rfl H.out) rfl ?_
            rw [HZ.out]
            exact ⟨As, y, cs, rfl, hl9, hr9, hc9⟩
          case neg =>
            have hd3 : (fe.1 == 0) = false := by simp; exact hgd
            have HZ : Hid (Z = ((0, []), pe, fe)) := by
              have := HRES2.out
              rw [HEF.out, if_neg hgd] at this
              exact this
            clear hgd
            go_wp2_with (refine wpList_put_row rfl 25 (.tmp 2) (.tmp 44) rfl w.heap.size _ rfl rfl 25 _ (show Blk _ _ _ _ from KRA.out) H.out rfl (by simp [Value.oneCell']) ?_; intro w9 hblk hgr)
            have hr9 := rdGrown RDA.out hgr (by simp; omega) (fun k hk => by have := HDW.out k hk; simp; omega)
            have hc9 := chGrown CHA.out hgr (fun k hk => by injection hk with hk; omega)
            refine bodyPost_ret (results_cell_row rfl _ _ w.heap.size 25 _ (0, 0) _ rfl hblk Try.underlying25 rfl H.out) rfl ?_
            rw [HZ.out]
            exact ⟨none, 0, 0, rfl, OL.nil _ _ _ _ _ _, hr9, hc9⟩
        case neg =>
          have hd2 : ((fre : Int) != 4611686018427387904) = true := by simp; omega
          have HEF : Hid (endFr pe fe fre = failF fe 3 pe) := if_neg hmx
          clear hmx
          go_wp2_with fail
          refine (cat_at RD.out).mono ?_; rintro en wx ⟨rfl, rfl⟩
          go_wp2_with fail
          refine (cfail_at RD.out 3 _).mono ?_; rintro en wf ⟨rfl, hrf, hcf⟩
          have GPF := Lib.hid (chB (show Blk wr gp 25 _ from GP.out) hcf HNGP.out)
          have KRF := Lib.hid (chB (show Blk wr w.heap.size 25 _ from KR.out) hcf HNGW.out)
          have OSF := Lib.hid (OS.chgR OSL.out RD.out hcf)
          have CHF := Lib.hid (CH.out.trans hcf)
          have RDF := Lib.hid hrf
          clear hrf hcf
          go_wp2_with fail
          refine (cgood_at RDF.out).mono ?_; rintro en wa ⟨rfl, hba⟩
          have GPA := Lib.hid (keepB (show Blk wf gp 25 _ from GPF.out) hba)
          have KRA := Lib.hid (keepB (show Blk wf w.heap.size 25 _ from KRF.out) hba)
          have OSA := Lib.hid ((show OS wf w.heap.size As y cs acc from OSF.out).below hba)
          have CHA := Lib.hid (CHF.out.trans (Chg.of_pure hba (one g)))
          have RDA := Lib.hid (keepR RDF.out hba)
          have OKX := Lib.hid ((OKE.out.fail 3 (pe : Int)))
          clear hba
          by_cases hgd : (failF fe 3 (pe : Int)).1 = 0
          case pos =>
            have hd3 : ((failF fe 3 (pe : Int)).1 == 0) = true := by simp; exact hgd
            have HZ : Hid (Z = ((x, acc), pe, (failF fe 3 (pe : Int)))) := by
              have := HRES2.out
              rw [HEF.out, if_pos hgd, HQ3.out (by rw [HEF.out]; exact hgd)] at this
              exact this
            clear hgd
            have g0 := (show Blk wa gp 25 _ from GPA.out).cell 0
            have g1 := (show Blk wa gp 25 _ from GPA.out).cell 1
            go_wp2_with (refine wpList_put_row rfl 25 (.tmp 2) (.tmp 45) rfl w.heap.size _ rfl rfl 25 _ (show Blk _ _ _ _ from KRA.out) H.out rfl (by simp [Value.oneCell']) ?_; intro w9 hblk hgr)
            have hl9 := (show OS wa w.heap.size As y cs acc from OSA.out).grown (show Blk _ _ _ _ from KRA.out) id tss_prj (by decide) hgr
            have hr9 := rdGrown RDA.out hgr (by simp; omega) (fun k hk => by have := HDW.out k hk; simp; omega)
            have hc9 := chGrown CHA.out hgr (fun k hk => by injection hk with hk; omega)
            refine bodyPost_ret (results_cell_row rfl _ _ w.heap.size 25 _ (0, 0) _ rfl hblk Try.underlying25 rfl H.out) rfl ?_
            rw [HZ.out]
            exact ⟨As, y, cs, rfl, hl9, hr9, hc9⟩
          case neg =>
            have hd3 : ((failF fe 3 (pe : Int)).1 == 0) = false := by simp; exact hgd
            have HZ : Hid (Z = ((0, []), pe, (failF fe 3 (pe : Int)))) := by
              have := HRES2.out
              rw [HEF.out, if_neg hgd] at this
              exact this
            clear hgd
            go_wp2_with (refine wpList_put_row rfl 25 (.tmp 2) (.tmp 44) rfl w.heap.size _ rfl rfl 25 _ (show Blk _ _ _ _ from KRA.out) H.out rfl (by simp [Value.oneCell']) ?_; intro w9 hblk hgr)
            have hr9 := rdGrown RDA.out hgr (by simp; omega) (fun k hk => by have := HDW.out k hk; simp; omega)
            have hc9 := chGrown CHA.out hgr (fun k hk => by injection hk with hk; omega)
            refine bodyPost_ret (results_cell_row rfl _ _ w.heap.size 25 _ (0, 0) _ rfl hblk Try.underlying25 rfl H.out) rfl ?_
            rw [HZ.out]
            exact ⟨none, 0, 0, rfl, OL.nil _ _ _ _ _ _, hr9, hc9⟩

      case pos =>
        have hst1 : StF l R ((y - (k + 1)) + 1) pe fe fre acc := by rw [show (y - (k + 1)) + 1 = y - k by omega]; exact HST.out
        have hst2 := hst1.next
        have hto := strF_to (l := l) (p := pe) (fr := fre) (f := fe)
        have hok5 := strF_ok (l := l) (p := pe) (fr := fre) OKE.out
        have HSR := Lib.hid (strRead_any RD.out OKE.out hl fre hfre)
        generalize strF l pe fe fre = r at *
        obtain ⟨⟨sf, st, ss⟩, q5, f5⟩ := r
        simp only at hst2 hto hok5 HSR
        obtain ⟨hsf, hst5⟩ := hto
        have HST2 := Lib.hid hst2
        have HOK5 := Lib.hid hok5
        have hd : decide ((k : Int) < (y : Int)) = true := by simp; omega
        have hk16 : k + 1 ≤ maxLen := by unfold maxLen; omega
        clear hst1 hst2 hok5
        go_wp2_with fail
        refine HSR.out.mono ?_; rintro en w5 ⟨A5, n5, c5, rfl, hl5, hr5, hc5⟩
        have hba := below1 w5 (.cells (stpV sf st A5 n5 c5) 31)
        obtain ⟨gs, hgs⟩ : ∃ gs, gs = w5.heap.size := ⟨_, rfl⟩
        have RD6 := Lib.hid (hr5.below hba)
        have CH6 := Lib.hid ((CH.out.trans hc5).trans (Chg.of_pure hba (one g)))
        have GP6 := Lib.hid (keepB (chB (show Blk wr gp 25 _ from GP.out) hc5 HNGP.out) hba)
        have KR6 := Lib.hid (keepB (chB (show Blk wr w.heap.size 25 _ from KR.out) hc5 HNGW.out) hba)
        have OS6 := Lib.hid (OL.below (OS.chgR OSL.out RD.out hc5) hba)
        have GS6 := Lib.hid (blk11 w5 31 (stpV sf st A5 n5 c5))
        have LL6 := Lib.hid (hl5.below hba)
        have hzr5 := hc5.size
        rw [← hgs] at GS6
        have HGS := Lib.hid hgs
        have hgs2 : wr.heap.size ≤ gs := by omega
        have hgpl := (show Blk wr gp 25 _ from GP.out).lt
        have hgl5 := hr5.lt
        clear hl5 hr5 hc5 hba hgs
        go_upto_region 10 with (fail)
        try rw [← HGS.out]
        generalize World.alloc w5 _ = w6 at *
        have hbb := below1 w6 (.cells (stpV sf st A5 n5 c5) 31)
        have g1 := (show Blk w6 gp 25 _ from GP6.out).cell 1
        have v0 := (show Blk w6 gs 31 _ from GS6.out).cell 0
        have v1 := (show Blk w6 gs 31 _ from GS6.out).cell 1
        have v2 := (show Blk w6 gs 31 _ from GS6.out).cell 2
        obtain ⟨vals, hov, hln, hvi⟩ := (show OS w6 w.heap.size As k cs acc from OS6.out).below hbb
        have HOV := Lib.hid hov
        have HVI := Lib.hid hvi
        have HLN := Lib.hid hln
        have HX := Lib.hid (stp_ok (show sf ≤ 18446744073709551615 by omega) (show st ≤ 18446744073709551615 by omega) (LL.tb (D0 := fun _ => False) (LL.below LL6.out hbb)))
        have HSRC := Lib.hid (Src.blk (size := rpStp.size) (blk11 w6 31 (stpV sf st A5 n5 c5)) (by kernel_rfl) (by simp [Value.oneCell']))
        have HGA := Lib.hid (keepB (show Blk w6 gp 25 _ from GP6.out) hbb)
        have HGSA := Lib.hid (keepB (show Blk w6 gs 31 _ from GS6.out) hbb)
        have HKA := Lib.hid (keepB (show Blk w6 w.heap.size 25 _ from KR6.out) hbb)
        have HRDA := Lib.hid (keepR RD6.out hbb)
        have HCA := Lib.hid (CH6.out.trans (Chg.of_pure hbb (one g)))
        have hz6 := CH6.out.size
        have hgsl := (show Blk w6 gs 31 _ from GS6.out).lt
        have HNE : Hid (gp ≠ gs) := by show gp ≠ gs; omega
        have HNE2 : Hid (gp ≠ w.heap.size) := by show gp ≠ w.heap.size; omega
        have HLT : Hid (∀ j, (Value.slice As k cs).ownBlock = some j → w.heap.size ≤ j ∧ j < wr.heap.size) := by
          obtain ⟨vals0, ho0, _⟩ := OSL.out
          exact fun j hj => ho0.lt j hj
        clear hbb hov hvi hln
        go_upto_region 11 with (at_builtin; refine wpList_app rfl (.tmp 27) (.tmp 29) _ rfl elemStp rfl HOV.out rfl HSRC.out hk16 (by omega) (by simp; omega) ?_; intro A7 c7 w7 ho7 hg7 hat7; have HO7 := Lib.hid ho7; have HG7 := Lib.hid hg7; have hk7 := (show Blk (w6.alloc (.cells (stpV sf st A5 n5 c5) 31)) gp 25 _ from HGA.out).grown hg7 (Pen.ne (show Blk _ _ _ _ from HGA.out) HOV.out (by decide)); have HK7 := Lib.hid hk7; have q1 := hk7.cell 1; have q1f := hk7.frozen 1; clear ho7 hg7 hat7 hk7)
        have hdj := HLT.out
        have hgs7 := (show Blk (w6.alloc (.cells (stpV sf st A5 n5 c5) 31)) gs 31 _ from HGSA.out).grown HG7.out (fun e => by have := (hdj gs e.symm).2; omega)
        have GS8 := Lib.hid (hgs7.far (p := ⟨gp, 1, none⟩) (fun e => HNE.out e.symm) (.slice A7 (k + 1) c7))
        have RD8 := Lib.hid (rdPut (rdGrown HRDA.out HG7.out (fun e => by have := (hdj g e.symm).1; omega) (fun q hq e => by have := (hdj q e.symm).1; have := HDW.out q hq; omega)) (a := ⟨gp, 1, none⟩) (fun e => HNGP.out e) (fun hq => by have hq2 : gp < w.heap.size := HDW.out gp hq; omega) (.slice A7 (k + 1) c7))
        have KR8 := Lib.hid (((show Blk (w6.alloc (.cells (stpV sf st A5 n5 c5) 31)) w.heap.size 25 _ from HKA.out).grown HG7.out (Pen.ne (show Blk _ _ _ _ from HKA.out) HOV.out (by decide))).far (p := ⟨gp, 1, none⟩) (fun e => HNE2.out e.symm) (.slice A7 (k + 1) c7))
        have CH8 := Lib.hid ((chGrown HCA.out HG7.out (fun j hj => (hdj j hj).1)).setCell (p := ⟨gp, 1, none⟩) (.inr (by show w.heap.size ≤ gp; omega)) (.slice A7 (k + 1) c7))
        have hos7 := (show OS (w6.alloc (.cells (stpV sf st A5 n5 c5) 31)) w.heap.size As k cs acc from ⟨vals, HOV.out, HLN.out, HVI.out⟩).push HOV.out HVI.out tss_stp (fun _ h => h.elim) HO7.out HG7.out HX.out
        have OS8 := Lib.hid (hos7.put (show Blk w7 gp 25 _ from HK7.out) id tss_prj (by decide) (a := ⟨gp, 1, none⟩) rfl (.slice A7 (k + 1) c7))
        have GP8 := Lib.hid ((show Blk w7 gp 25 _ from HK7.out).put 1 (.slice A7 (k + 1) c7))
        clear hdj hgs7 hos7 q1 q1f g1 v0 v1 v2
        generalize World.setCell w7 _ _ = w8 at *
        have v1 := (show Blk w8 gs 31 _ from GS8.out).cell 1
        go_wp2_with fail
        go_roundw
        case rel => exact ⟨k + 1, st, q5, f5, A7, c7, acc ++ [(sf, st, ss)], by omega, by go_num, rfl, by omega, RD8.out, HOK5.out, GP8.out, OS8.out, KR8.out, CH8.out, HST2.out⟩
        case measure => simp [intOf]; omega
end
end Go.Proofs.Ytmdgmnaaopineaa
/- Projections: got, Get, Decode. -/
namespace Go.Proofs.Ytmdgmnaaopineaa
open Go.ChangeShapes Go.WideShapes Go.ChangeAt Go.RowKit
set_option linter.unusedVariables false
abbrev fltV (f : Flt) : Array Value := #[.int .i64 f.1, .int .i64 f.2]
section
variable {w : World} {D : Dom} {g : Nat} {l : List UInt8} {p : Nat} {f : Flt} {A : Option Addr} {n c e : Nat}
set_option maxRecDepth 100000 in
set_option maxHeartbeats 2000000 in
theorem prgot_bad (h : Rd w D g l p f) (h0 : f.1 ≠ 0) :
    Calls Try.prog 79 #[.pointer (some ⟨g, 0, none⟩), .agg (prjV e A n c)] w fun en w' => en = .returned (.tuple #[.agg (prjV 0 none 0 0), .int .i64 0, .agg (fltV f)]) ∧ Below w.heap.size w w' := by
  have H : Hid ((Try.prog.info? 40).map (·.size) = some 2) := by unfold Hid; kernel_rfl
  have H3 : Hid ((Try.prog.info? 25).map (·.size) = some 2) := by unfold Hid; kernel_rfl
  obtain ⟨f1, f2⟩ := f
  have hz := below3 w (.cells (prjV e A n c) 25) (.cells (prjV 0 none 0 0) 25) (.cells (fltV (0, 0)) 40)
  have HR := Lib.hid (h.below hz)
  have HZ := Lib.hid hz
  have HS := Lib.hid ((blk21 w 25 25 (prjV e A n c) (prjV 0 none 0 0)).alloc (.cells (fltV (0, 0)) 40))
  have HT := Lib.hid ((blk22 w 25 25 (prjV e A n c) (prjV 0 none 0 0)).alloc (.cells (fltV (0, 0)) 40))
  have HU : Hid (Blk (((w.alloc (.cells (prjV e A n c) 25)).alloc (.cells (prjV 0 none 0 0) 25)).alloc (.cells (fltV (0, 0)) 40)) (w.heap.size + 1 + 1) 40 (fltV (0, 0))) := Blk.newAt (by rw [size_alloc, size_alloc]) _ _
  have hg : (f1 == 0) = false := by simpa using h0
  clear h h0 hz
  go_enter Try.func79, Try.ntmps79
  go_wp2_with fail
  generalize World.alloc (World.alloc (World.alloc _ _) _) _ = w0 at *
  have hz0 := HZ.out.size
  refine (cfault_at HR.out).mono ?_; rintro en w1 ⟨rfl, hb1⟩
  have hl1 := hb1.size
  have hu := (show Blk w0 _ _ _ from HU.out).lt
  have HR1 := Lib.hid (HR.out.below hb1)
  have HS1 := Lib.hid (keepB (show Blk w0 w.heap.size 25 _ from HS.out) hb1)
  have HT1 := Lib.hid (keepB (show Blk w0 (w.heap.size + 1) 25 _ from HT.out) hb1)
  have HU1 := Lib.hid (keepB (show Blk w0 (w.heap.size + 1 + 1) 40 _ from HU.out) hb1)
  have HB1 := Lib.hid (stepB HZ.out hb1)
  clear hb1
  go_wp2_with fail
  refine (fgood_any _ _ _).mono ?_; rintro en w2 ⟨rfl, hb2⟩
  have hba := below1 w1 (.cells (fltV (f1, f2)) 40)
  have hbw := stepB hba hb2
  have hn2 := keepB (blk11 w1 40 (fltV (f1, f2))) hb2
  have hs2 := keepB (show Blk w1 w.heap.size 25 _ from HS1.out) hbw
  have ht2 := keepB (show Blk w1 (w.heap.size + 1) 25 _ from HT1.out) hbw
  have hu2 := keepB (show Blk w1 (w.heap.size + 1 + 1) 40 _ from HU1.out) hbw
  have HB2 := Lib.hid (stepB HB1.out hbw)
  have HR2 := Lib.hid (rdDrew (keepR HR1.out hbw))
  have s0 := hs2.cell 0
  have s1 := hs2.cell 1
  have a0 := hn2.cell 0
  have a1 := hn2.cell 1
  have b0 := ht2.cell 0
  have b1 := ht2.cell 1
  have bf0 := ht2.frozen 0
  have bf1 := ht2.frozen 1
  have c0 := hu2.cell 0
  have c1 := hu2.cell 1
  have cf0 := hu2.frozen 0
  have cf1 := hu2.frozen 1
  generalize hgn : w1.heap.size = gn at *
  have hne1 : gn ≠ w.heap.size + 1 := by omega
  have hne2 : gn ≠ w.heap.size + 1 + 1 := by omega
  clear hb2 hba hbw hn2 hs2 ht2 hu2 hgn
  go_wp2_with fail
  go_region
  go_wp2_with fail
  refine bodyPost_ret (v := .tuple #[.agg (prjV 0 none 0 0), .int .i64 0, .agg (fltV (f1, f2))]) (by simp [results, Try.results79, go_sem, b0, b1, c0, c1]) rfl ⟨rfl, ?_⟩
  exact ((((HB2.out.setCell (by dsimp only; omega) _).setCell (by dsimp only; omega) _).setCell (by dsimp only; omega) _).setCell (by dsimp only; omega) _).drew
set_option maxRecDepth 100000 in
set_option maxHeartbeats 2000000 in
theorem prgot_ok (h : Rd w D g l p f) (h0 : f.1 = 0) :
    Calls Try.prog 79 #[.pointer (some ⟨g, 0, none⟩), .agg (prjV e A n c)] w fun en w' => en = .returned (.tuple #[.agg (prjV e A n c), .int .i64 (p : Int), .agg (fltV (0, 0))]) ∧ Below w.heap.size w w' := by
  have H : Hid ((Try.prog.info? 40).map (·.size) = some 2) := by unfold Hid; kernel_rfl
  have H3 : Hid ((Try.prog.info? 25).map (·.size) = some 2) := by unfold Hid; kernel_rfl
  obtain ⟨f1, f2⟩ := f
  have hz := below3 w (.cells (prjV e A n c) 25) (.cells (prjV 0 none 0 0) 25) (.cells (fltV (0, 0)) 40)
  have HR := Lib.hid (h.below hz)
  have HZ := Lib.hid hz
  have HS := Lib.hid ((blk21 w 25 25 (prjV e A n c) (prjV 0 none 0 0)).alloc (.cells (fltV (0, 0)) 40))
  have HT := Lib.hid ((blk22 w 25 25 (prjV e A n c) (prjV 0 none 0 0)).alloc (.cells (fltV (0, 0)) 40))
  have HU : Hid (Blk (((w.alloc (.cells (prjV e A n c) 25)).alloc (.cells (prjV 0 none 0 0) 25)).alloc (.cells (fltV (0, 0)) 40)) (w.heap.size + 1 + 1) 40 (fltV (0, 0))) := Blk.newAt (by rw [size_alloc, size_alloc]) _ _
  have hg : (f1 == 0) = true := by simpa using h0
  clear h h0 hz
  go_enter Try.func79, Try.ntmps79
  go_wp2_with fail
  generalize World.alloc (World.alloc (World.alloc _ _) _) _ = w0 at *
  have hz0 := HZ.out.size
  refine (cfault_at HR.out).mono ?_; rintro en w1 ⟨rfl, hb1⟩
  have hl1 := hb1.size
  have hu := (show Blk w0 _ _ _ from HU.out).lt
  have HR1 := Lib.hid (HR.out.below hb1)
  have HS1 := Lib.hid (keepB (show Blk w0 w.heap.size 25 _ from HS.out) hb1)
  have HT1 := Lib.hid (keepB (show Blk w0 (w.heap.size + 1) 25 _ from HT.out) hb1)
  have HU1 := Lib.hid (keepB (show Blk w0 (w.heap.size + 1 + 1) 40 _ from HU.out) hb1)
  have HB1 := Lib.hid (stepB HZ.out hb1)
  clear hb1
  go_wp2_with fail
  refine (fgood_any _ _ _).mono ?_; rintro en w2 ⟨rfl, hb2⟩
  have hba := below1 w1 (.cells (fltV (f1, f2)) 40)
  have hbw := stepB hba hb2
  have hn2 := keepB (blk11 w1 40 (fltV (f1, f2))) hb2
  have hs2 := keepB (show Blk w1 w.heap.size 25 _ from HS1.out) hbw
  have ht2 := keepB (show Blk w1 (w.heap.size + 1) 25 _ from HT1.out) hbw
  have hu2 := keepB (show Blk w1 (w.heap.size + 1 + 1) 40 _ from HU1.out) hbw
  have HB2 := Lib.hid (stepB HB1.out hbw)
  have HR2 := Lib.hid (rdDrew (keepR HR1.out hbw))
  have s0 := hs2.cell 0
  have s1 := hs2.cell 1
  have a0 := hn2.cell 0
  have a1 := hn2.cell 1
  have b0 := ht2.cell 0
  have b1 := ht2.cell 1
  have bf0 := ht2.frozen 0
  have bf1 := ht2.frozen 1
  have c0 := hu2.cell 0
  have c1 := hu2.cell 1
  have cf0 := hu2.frozen 0
  have cf1 := hu2.frozen 1
  generalize hgn : w1.heap.size = gn at *
  have hne1 : gn ≠ w.heap.size + 1 := by omega
  have hne2 : gn ≠ w.heap.size + 1 + 1 := by omega
  clear hb2 hba hbw hn2 hs2 ht2 hu2 hgn
  go_wp2_with fail
  go_region_with ((go_at_call 45; refine (cat_at HR2.out).mono ?_; rintro en w4 ⟨rfl, rfl⟩))
  all_goals
    go_wp2_with fail
    refine bodyPost_ret (v := .tuple #[.agg (prjV e A n c), .int .i64 (p : Int), .agg (fltV (0, 0))]) (by simp [results, Try.results79, go_sem, b0, b1, c0, c1]) rfl ⟨rfl, ?_⟩
    exact ((((HB2.out.setCell (by dsimp only; omega) _).setCell (by dsimp only; omega) _).setCell (by dsimp only; omega) _).setCell (by dsimp only; omega) _).drew
end
end Go.Proofs.Ytmdgmnaaopineaa
/- Projections: Get, Decode. -/
namespace Go.Proofs.Ytmdgmnaaopineaa
open Go.ChangeShapes Go.WideShapes Go.ChangeAt Go.RowKit
set_option linter.unusedVariables false
/-- What 'got' makes of a reading. -/
def gotP (z : Prj) (f : Flt) : Prj := if f.1 = 0 then z else (0, [])
def gotN (p : Nat) (f : Flt) : Int := if f.1 = 0 then (p : Int) else 0
section
variable {w : World} {D : Dom} {g : Nat} {l : List UInt8} {p : Nat} {f : Flt} {A : Option Addr} {n c e base : Nat}
theorem prgot_any {z : Prj} (hf : OkF f) (h : Rd w D g l p f) (hs : OS w base A n c z.2) :
    Calls Try.prog 79 #[.pointer (some ⟨g, 0, none⟩), .agg (prjV z.1 A n c)] w fun en w' => ∃ A2 n2 c2, en = .returned (.tuple #[.agg (prjV (gotP z f).1 A2 n2 c2), .int .i64 (gotN p f), .agg (fltV f)]) ∧ OS w' base A2 n2 c2 (gotP z f).2 ∧ Below w.heap.size w w' := by
  by_cases h0 : f.1 = 0
  · have e1 : gotP z f = z := if_pos h0
    have e2 : gotN p f = p := if_pos h0
    have e3 := hf.eq h0
    rw [e1, e2]
    refine (prgot_ok (e := z.1) (A := A) (n := n) (c := c) h h0).mono ?_
    rintro en w' ⟨rfl, hb⟩
    rw [e3]
    exact ⟨A, n, c, rfl, hs.below hb, hb⟩
  · have e1 : gotP z f = (0, []) := if_neg h0
    have e2 : gotN p f = 0 := if_neg h0
    rw [e1, e2]
    refine (prgot_bad (e := z.1) (A := A) (n := n) (c := c) h h0).mono ?_
    rintro en w' ⟨rfl, hb⟩
    exact ⟨none, 0, 0, rfl, OL.nil _ _ _ _ _ _, hb⟩
theorem gotP_read {z : Prj} {f : Flt} (h : f.1 ≠ 0 → z = (0, [])) : gotP z f = z := by
  unfold gotP
  split
  · rfl
  · rename_i h0; exact (h h0).symm
end
def GetIs (w : World) (z : Prj) (N : Int) (f : Flt) (en : Ending) (w' : World) : Prop :=
  ∃ A2 n2 c2, en = .returned (.tuple #[.agg (prjV z.1 A2 n2 c2), .int .i64 N, .agg (fltV f)]) ∧ OS w' w.heap.size A2 n2 c2 z.2 ∧ Below w.heap.size w w'
def DecIs (w : World) (z : Prj) (f : Flt) (en : Ending) (w' : World) : Prop :=
  ∃ A2 n2 c2, en = .returned (.tuple #[.agg (prjV z.1 A2 n2 c2), .agg (fltV f)]) ∧ OS w' w.heap.size A2 n2 c2 z.2 ∧ Below w.heap.size w w'
section
variable {w : World} {D : Dom} {A : Option Addr} {n c : Nat} {l : List UInt8}
set_option maxRecDepth 100000 in
set_option maxHeartbeats 3000000 in
theorem prget_any (h : rpU8.sl w D A n c l) (hD : ∀ k, D k → k < w.heap.size) (hn : n ≤ 1000000000) :
    Calls Try.prog 57 #[.slice A n c] w (GetIs w (prjF l 0 (0, 0)).1 (gotN (prjF l 0 (0, 0)).2.1 (prjF l 0 (0, 0)).2.2) (prjF l 0 (0, 0)).2.2) := by
  have H : Hid ((Try.prog.info? 25).map (·.size) = some 2) := by unfold Hid; kernel_rfl
  have H2 : Hid ((Try.prog.info? 40).map (·.size) = some 2) := by unfold Hid; kernel_rfl
  obtain ⟨hlen, _, _⟩ := Rp.sl_len h
  have hl : l.length ≤ 1000000000 := by omega
  have hok : OkF (prjF l 0 (0, 0)).2.2 := prjF_ok OkF.nil
  have hgs := gotP_read (z := (prjF l 0 (0, 0)).1) (f := (prjF l 0 (0, 0)).2.2) (fun h => prjF_fail0 h)
  have HRD : Hid (∀ (w : World) (g : Nat), Rd w D g l 0 (0, 0) → Calls Try.prog 59 #[.pointer (some ⟨g, 0, none⟩)] w (PrIs w D g l (prjF l 0 (0, 0)))) := fun w g h => prread_any h OkF.nil hl
  generalize prjF l 0 (0, 0) = r at *
  obtain ⟨z, q, f⟩ := r
  simp only at hok hgs ⊢
  have HOK := Lib.hid hok
  have HGS := Lib.hid hgs
  have hz := below2 w (.cells (prjV 0 none 0 0) 25) (.cells (fltV (0, 0)) 40)
  have HNEW := Lib.hid (cnew_any (Rp.sl_below h hz hD) (fun k hk => Nat.lt_of_lt_of_le (hD k hk) hz.size))
  have HK := Lib.hid (blk21 w 25 40 (prjV 0 none 0 0) (fltV (0, 0)))
  have HT := Lib.hid (blk22 w 25 40 (prjV 0 none 0 0) (fltV (0, 0)))
  have HZ := Lib.hid hz
  clear h hD hz hok hgs hlen hl
  go_enter Try.func57, Try.ntmps57
  go_wp2_with fail
  generalize World.alloc (World.alloc _ _) _ = w0 at *
  have hz0 := HZ.out.size
  have hk0 := (show Blk w0 _ _ _ from HK.out).lt
  have ht0 := (show Blk w0 _ _ _ from HT.out).lt
  refine HNEW.out.mono ?_; rintro en w1 ⟨rfl, hr1, hb1⟩
  have HR1 := Lib.hid hr1
  have HB1 := Lib.hid (stepB HZ.out hb1)
  have HK1 := Lib.hid (keepB (show Blk w0 _ 25 _ from HK.out) hb1)
  have HT1 := Lib.hid (keepB (show Blk w0 _ 40 _ from HT.out) hb1)
  have hz1 := HB1.out.size
  generalize hgr : w0.heap.size = gr at *
  clear hr1 hb1
  go_wp2_with fail
  refine (HRD.out _ _ HR1.out).mono ?_; rintro en w2 ⟨A2, n2, c2, rfl, ho2, hr2, hc2⟩
  have hba := below1 w2 (.cells (prjV z.1 A2 n2 c2) 25)
  have hgr' := hgr
  have HB3 := Lib.hid (stepB (HB1.out.trans ((hc2.below (B := w.heap.size) HB1.out.size (fun k hk => by have : k = gr := hk; omega)))) hba)
  have HK3 := Lib.hid (keepB (chB (show Blk w1 _ 25 _ from HK1.out) hc2 (fun e => by have : w.heap.size = gr := e; omega)) hba)
  have HT3 := Lib.hid (keepB (chB (show Blk w1 _ 40 _ from HT1.out) hc2 (fun e => by have : w.heap.size + 1 = gr := e; omega)) hba)
  have HR3 := Lib.hid (keepR hr2 hba)
  have HO3 := Lib.hid (OL.mono (ho2.below hba) hz1)
  clear hr2 hc2 hba ho2 hgr'
  go_wp2_with fail
  generalize World.alloc w2 _ = w3 at *
  refine (prgot_any (z := z) HOK.out HR3.out HO3.out).mono ?_; rintro en w4 ⟨A4, n4, c4, rfl, ho4, hb4⟩
  rw [HGS.out]
  rw [HGS.out] at ho4
  have HK4 := Lib.hid (keepB (show Blk w3 _ 25 _ from HK3.out) hb4)
  have HT4 := Lib.hid (keepB (show Blk w3 _ 40 _ from HT3.out) hb4)
  have HB4 := Lib.hid (stepB HB3.out hb4)
  have HO4 := Lib.hid ho4
  clear hb4 ho4
  go_wp2_with (first
    | (refine wpList_put_row rfl 25 (.tmp 2) (.tmp 14) rfl w.heap.size _ rfl rfl 25 _ (show Blk _ _ _ _ from HK4.out) H.out rfl (by simp [Value.oneCell']) ?_; intro w5 hblk hgr5; have HK5 := Lib.hid hblk; have HG5 := Lib.hid hgr5; have HT5 := Lib.hid ((show Blk w4 (w.heap.size + 1) 40 _ from HT4.out).grown hgr5 (by simp)); clear hblk hgr5)
    | (refine wpList_put_row rfl 40 (.tmp 4) (.tmp 16) rfl (w.heap.size + 1) _ rfl rfl 40 _ (show Blk _ _ _ _ from HT5.out) H2.out rfl (by simp [Value.oneCell']) ?_; intro w6 hblk hgr6; have HT6 := Lib.hid hblk; have HG6 := Lib.hid hgr6; have HK6 := Lib.hid ((show Blk w5 w.heap.size 25 _ from HK5.out).grown hgr6 (by simp)); clear hblk hgr6))
  have hb5 : Below w.heap.size w w5 := HB4.out.grown HG5.out HB4.out.size (fun k hk => by injection hk with hk; omega)
  have hb6 : Below w.heap.size w w6 := hb5.grown HG6.out hb5.size (fun k hk => by injection hk with hk; omega)
  have ho5 := OL.grown HO4.out (show Blk w4 w.heap.size 25 _ from HK4.out) id tss_prj (by decide) HG5.out
  have ho6 := OL.grown ho5 (show Blk w5 (w.heap.size + 1) 40 _ from HT5.out) id (by unfold TSs; decide) (by decide) HG6.out
  have f0 := (show Blk w6 w.heap.size 25 _ from HK6.out).cell 0
  have f1 := (show Blk w6 w.heap.size 25 _ from HK6.out).cell 1
  have f2 := (show Blk w6 (w.heap.size + 1) 40 _ from HT6.out).cell 0
  have f3 := (show Blk w6 (w.heap.size + 1) 40 _ from HT6.out).cell 1
  exact bodyPost_ret (v := .tuple #[.agg (prjV z.1 A4 n4 c4), .int .i64 (gotN q f), .agg (fltV f)]) (by simp [results, Try.results57, go_sem, f0, f1, f2, f3]) rfl ⟨A4, n4, c4, rfl, ho6, hb6⟩
set_option maxRecDepth 100000 in
set_option maxHeartbeats 3000000 in
theorem prdec_any (h : rpU8.sl w D A n c l) (hD : ∀ k, D k → k < w.heap.size) (hn : n ≤ 1000000000) :
    Calls Try.prog 21 #[.slice A n c] w (DecIs w (gotP (prjF l 0 (0, 0)).1 (endF l.length (prjF l 0 (0, 0)).2.1 (prjF l 0 (0, 0)).2.2)) (endF l.length (prjF l 0 (0, 0)).2.1 (prjF l 0 (0, 0)).2.2)) := by
  have H : Hid ((Try.prog.info? 25).map (·.size) = some 2) := by unfold Hid; kernel_rfl
  have H2 : Hid ((Try.prog.info? 40).map (·.size) = some 2) := by unfold Hid; kernel_rfl
  obtain ⟨hlen, _, _⟩ := Rp.sl_len h
  have hl : l.length ≤ 1000000000 := by omega
  have hok : OkF (prjF l 0 (0, 0)).2.2 := prjF_ok OkF.nil
  have hok2 : OkF (endF l.length (prjF l 0 (0, 0)).2.1 (prjF l 0 (0, 0)).2.2) := by
    unfold endF
    split
    · exact hok.fail _ _
    · exact hok
  have HRD : Hid (∀ (w : World) (g : Nat), Rd w D g l 0 (0, 0) → Calls Try.prog 59 #[.pointer (some ⟨g, 0, none⟩)] w (PrIs w D g l (prjF l 0 (0, 0)))) := fun w g h => prread_any h OkF.nil hl
  generalize prjF l 0 (0, 0) = r at *
  obtain ⟨z, q, f⟩ := r
  simp only at hok hok2 ⊢
  have HEND : Hid (∀ (w : World) (g : Nat), Rd w D g l q f → Calls Try.prog 78 #[.pointer (some ⟨g, 0, none⟩)] w fun e w' => e = .returned (.tuple #[]) ∧ Rd w' D g l q (endF l.length q f) ∧ Chg (one g) w w') := fun w g h => cend_at h
  generalize endF l.length q f = f' at *
  have HOK := Lib.hid hok2
  have hz := below2 w (.cells (prjV 0 none 0 0) 25) (.cells (fltV (0, 0)) 40)
  have HNEW := Lib.hid (cnew_any (Rp.sl_below h hz hD) (fun k hk => Nat.lt_of_lt_of_le (hD k hk) hz.size))
  have HK := Lib.hid (blk21 w 25 40 (prjV 0 none 0 0) (fltV (0, 0)))
  have HT := Lib.hid (blk22 w 25 40 (prjV 0 none 0 0) (fltV (0, 0)))
  have HZ := Lib.hid hz
  clear h hD hz hok hok2 hlen hl
  go_enter Try.func21, Try.ntmps21
  go_wp2_with fail
  generalize World.alloc (World.alloc _ _) _ = w0 at *
  have hz0 := HZ.out.size
  have hk0 := (show Blk w0 _ _ _ from HK.out).lt
  have ht0 := (show Blk w0 _ _ _ from HT.out).lt
  refine HNEW.out.mono ?_; rintro en w1 ⟨rfl, hr1, hb1⟩
  have HR1 := Lib.hid hr1
  have HB1 := Lib.hid (stepB HZ.out hb1)
  have HK1 := Lib.hid (keepB (show Blk w0 _ 25 _ from HK.out) hb1)
  have HT1 := Lib.hid (keepB (show Blk w0 _ 40 _ from HT.out) hb1)
  have hz1 := HB1.out.size
  have hzz1 := hb1.size
  generalize hgr : w0.heap.size = gr at *
  have hgrw1 := hr1.lt
  clear hr1 hb1
  go_wp2_with fail
  refine (HRD.out _ _ HR1.out).mono ?_; rintro en w2 ⟨A2, n2, c2, rfl, ho2, hr2, hc2⟩
  have hba := below1 w2 (.cells (prjV z.1 A2 n2 c2) 25)
  have hzz2 := hc2.size
  have HB3 := Lib.hid (stepB (HB1.out.trans ((hc2.below (B := w.heap.size) HB1.out.size (fun k hk => by have : k = gr := hk; omega)))) hba)
  have HK3 := Lib.hid (keepB (chB (show Blk w1 _ 25 _ from HK1.out) hc2 (fun e => by have : w.heap.size = gr := e; omega)) hba)
  have HT3 := Lib.hid (keepB (chB (show Blk w1 _ 40 _ from HT1.out) hc2 (fun e => by have : w.heap.size + 1 = gr := e; omega)) hba)
  have HR3 := Lib.hid (keepR hr2 hba)
  have HO3 := Lib.hid (OL.mono (ho2.below hba) hz1)
  have HV3 := Lib.hid (blk11 w2 25 (prjV z.1 A2 n2 c2))
  clear hr2 hc2 hba ho2
  go_wp2_with fail
  generalize hgv : w2.heap.size = gv at *
  generalize World.alloc w2 _ = w3 at *
  refine (HEND.out _ _ HR3.out).mono ?_; rintro en w4 ⟨rfl, hr4, hc4⟩
  have HB4 := Lib.hid (HB3.out.trans ((hc4.below (B := w.heap.size) HB3.out.size (fun k hk => by have : k = gr := hk; omega))))
  have HK4 := Lib.hid (chB (show Blk w3 _ 25 _ from HK3.out) hc4 (fun e => by have : w.heap.size = gr := e; omega))
  have HT4 := Lib.hid (chB (show Blk w3 _ 40 _ from HT3.out) hc4 (fun e => by have : w.heap.size + 1 = gr := e; omega))
  have HV4 := Lib.hid (chB (show Blk w3 gv 25 _ from HV3.out) hc4 (fun e => by have : gv = gr := e; omega))
  have HO4 := Lib.hid (OS.chgR HO3.out HR3.out hc4)
  have HR4 := Lib.hid hr4
  have v0 := (show Blk w4 gv 25 _ from HV4.out).cell 0
  have v1 := (show Blk w4 gv 25 _ from HV4.out).cell 1
  clear hr4 hc4
  go_wp2_with fail
  refine (prgot_any (z := z) HOK.out HR4.out HO4.out).mono ?_; rintro en w5 ⟨A5, n5, c5, rfl, ho5, hb5⟩
  generalize gotP z f' = z' at *
  generalize gotN q f' = N at *
  have hba := below1 w5 (.cells (fltV (0, 0)) 40)
  have HV6 := Lib.hid (keepB (keepB (show Blk w4 gv 25 _ from HV4.out) hb5) hba)
  have HO6 := Lib.hid (ho5.below hba)
  have HB6 := Lib.hid (stepB (stepB HB4.out hb5) hba)
  have HK6 := Lib.hid (keepB (keepB (show Blk w4 w.heap.size 25 _ from HK4.out) hb5) hba)
  have HT6 := Lib.hid (keepB (keepB (show Blk w4 (w.heap.size + 1) 40 _ from HT4.out) hb5) hba)
  have HF6 := Lib.hid (blk11 w5 40 (fltV (0, 0)))
  have hl5 := (keepB (show Blk w4 gv 25 _ from HV4.out) hb5).lt
  have hl50 := (keepB (show Blk w4 w.heap.size 25 _ from HK4.out) hb5).lt
  have hl51 := (keepB (show Blk w4 (w.heap.size + 1) 40 _ from HT4.out) hb5).lt
  have HGV : Hid (w.heap.size + 1 < gv) := by show w.heap.size + 1 < gv; have := (show Blk w1 (w.heap.size + 1) 40 _ from HT1.out).lt; omega
  clear hba hb5 ho5 v0 v1
  go_upto_region 5 with (first | (refine wpList_put_row rfl 25 (.tmp 5) (.tmp 18) rfl gv _ rfl rfl 25 _ (show Blk _ _ _ _ from HV6.out) H.out rfl (by simp [Value.oneCell']) ?_; intro w7 hblk hgr7; have HV7 := Lib.hid hblk; have HG7 := Lib.hid hgr7; have HF7 := Lib.hid ((show Blk (w5.alloc (.cells (fltV (0, 0)) 40)) w5.heap.size 40 _ from HF6.out).grown hgr7 (by simp; omega)); clear hblk hgr7) | (refine wpList_put_row rfl 40 (.tmp 7) (.tmp 20) rfl w5.heap.size _ rfl rfl 40 _ (show Blk _ _ _ _ from HF7.out) H2.out rfl (by simp [Value.oneCell']) ?_; intro w8 hblk hgr8; have HF8 := Lib.hid hblk; have HG8 := Lib.hid hgr8; clear hblk hgr8))
  have hgv := HGV.out
  have hgz := HB6.out.size
  have hb7 : Below w.heap.size w w7 := HB6.out.grown HG7.out HB6.out.size (fun k hk => by injection hk with hk; omega)
  have hb8 : Below w.heap.size w w8 := hb7.grown HG8.out hb7.size (fun k hk => by injection hk with hk; omega)
  have HB8 := Lib.hid hb8
  have HO7 := Lib.hid (OL.grown HO6.out (show Blk _ gv 25 _ from HV6.out) id tss_prj (by decide) HG7.out)
  have HO8 := Lib.hid (OL.grown HO7.out (show Blk w7 w5.heap.size 40 _ from HF7.out) id (by unfold TSs; decide) (by decide) HG8.out)
  have HV8 := Lib.hid ((show Blk w7 gv 25 _ from HV7.out).grown HG8.out (by simp; omega))
  have HK8 := Lib.hid (((show Blk _ w.heap.size 25 _ from HK6.out).grown HG7.out (by simp; omega)).grown HG8.out (by simp; omega))
  have HT8 := Lib.hid (((show Blk _ (w.heap.size + 1) 40 _ from HT6.out).grown HG7.out (by simp; omega)).grown HG8.out (by simp; omega))
  have v0 := (show Blk w8 gv 25 _ from HV8.out).cell 0
  have v1 := (show Blk w8 gv 25 _ from HV8.out).cell 1
  have u0 := (show Blk w8 w5.heap.size 40 _ from HF8.out).cell 0
  have u1 := (show Blk w8 w5.heap.size 40 _ from HF8.out).cell 1
  have b0 := (show Blk w8 w.heap.size 25 _ from HK8.out).cell 0
  have b1 := (show Blk w8 w.heap.size 25 _ from HK8.out).cell 1
  have bf0 := (show Blk w8 w.heap.size 25 _ from HK8.out).frozen 0
  have bf1 := (show Blk w8 w.heap.size 25 _ from HK8.out).frozen 1
  have c0 := (show Blk w8 (w.heap.size + 1) 40 _ from HT8.out).cell 0
  have c1 := (show Blk w8 (w.heap.size + 1) 40 _ from HT8.out).cell 1
  have cf0 := (show Blk w8 (w.heap.size + 1) 40 _ from HT8.out).frozen 0
  have cf1 := (show Blk w8 (w.heap.size + 1) 40 _ from HT8.out).frozen 1
  have hne1 : gv ≠ w.heap.size := by omega
  have hne2 : gv ≠ w.heap.size + 1 := by omega
  have hne3 : w5.heap.size ≠ w.heap.size := by omega
  have hne4 : w5.heap.size ≠ w.heap.size + 1 := by omega
  clear hb7 hb8
  generalize hgf : w5.heap.size = gf at *
  have k0 := (show Blk w8 w.heap.size 25 _ from HK8.out)
  have t0 := (show Blk w8 (w.heap.size + 1) 40 _ from HT8.out)
  have W1 : Hid (OS ((((w8.setCell ⟨w.heap.size, 0, none⟩ (.int .u64 (z'.1 : Int))).setCell ⟨w.heap.size, 1, none⟩ (.slice A5 n5 c5)).setCell ⟨w.heap.size + 1, 0, none⟩ (.int .i64 f'.1)).setCell ⟨w.heap.size + 1, 1, none⟩ (.int .i64 f'.2)) w.heap.size A5 n5 c5 z'.2) := by
    have t2 := (t0.far (p := ⟨w.heap.size, 0, none⟩) (by dsimp only; omega) (.int .u64 (z'.1 : Int))).far (p := ⟨w.heap.size, 1, none⟩) (by dsimp only; omega) (.slice A5 n5 c5)
    have o1 := OL.put HO8.out k0 id tss_prj (by decide) (a := ⟨w.heap.size, 0, none⟩) rfl (.int .u64 (z'.1 : Int))
    have o2 := OL.put o1 (k0.put 0 (.int .u64 (z'.1 : Int))) id tss_prj (by decide) (a := ⟨w.heap.size, 1, none⟩) rfl (.slice A5 n5 c5)
    have o3 := OL.put o2 t2 id (by unfold TSs; decide) (by decide) (a := ⟨w.heap.size + 1, 0, none⟩) rfl (.int .i64 f'.1)
    exact OL.put o3 (t2.put 0 (.int .i64 f'.1)) id (by unfold TSs; decide) (by decide) (a := ⟨w.heap.size + 1, 1, none⟩) rfl (.int .i64 f'.2)
  have W2 : Hid (OS ((((w8.setCell ⟨w.heap.size + 1, 0, none⟩ (.int .i64 f'.1)).setCell ⟨w.heap.size + 1, 1, none⟩ (.int .i64 f'.2)).setCell ⟨w.heap.size, 0, none⟩ (.int .u64 (z'.1 : Int))).setCell ⟨w.heap.size, 1, none⟩ (.slice A5 n5 c5)) w.heap.size A5 n5 c5 z'.2) := by
    have t2 := (k0.far (p := ⟨w.heap.size + 1, 0, none⟩) (by dsimp only; omega) (.int .i64 f'.1)).far (p := ⟨w.heap.size + 1, 1, none⟩) (by dsimp only; omega) (.int .i64 f'.2)
    have o1 := OL.put HO8.out t0 id (by unfold TSs; decide) (by decide) (a := ⟨w.heap.size + 1, 0, none⟩) rfl (.int .i64 f'.1)
    have o2 := OL.put o1 (t0.put 0 (.int .i64 f'.1)) id (by unfold TSs; decide) (by decide) (a := ⟨w.heap.size + 1, 1, none⟩) rfl (.int .i64 f'.2)
    have o3 := OL.put o2 t2 id tss_prj (by decide) (a := ⟨w.heap.size, 0, none⟩) rfl (.int .u64 (z'.1 : Int))
    exact OL.put o3 (t2.put 0 (.int .u64 (z'.1 : Int))) id tss_prj (by decide) (a := ⟨w.heap.size, 1, none⟩) rfl (.slice A5 n5 c5)
  clear k0 t0
  go_region
  all_goals
    go_wp2_with fail
    refine bodyPost_ret (v := .tuple #[.agg (prjV z'.1 A5 n5 c5), .agg (fltV f')]) (by simp [results, Try.results21, go_sem, b0, b1, c0, c1]) rfl ⟨A5, n5, c5, rfl, ?_, ((((HB8.out.setCell (by dsimp only; omega) _).setCell (by dsimp only; omega) _).setCell (by dsimp only; omega) _).setCell (by dsimp only; omega) _).drew⟩
    first
      | exact OL.same W1.out (fun _ _ => rfl) (fun _ _ _ _ => rfl) (Nat.le_refl _)
      | exact OL.same W2.out (fun _ _ => rfl) (fun _ _ _ _ => rfl) (Nat.le_refl _)
end
end Go.Proofs.Ytmdgmnaaopineaa
/- Two stripes are the same: the reference. -/
namespace Go.Proofs.Ytmdgmnaaopineaa
open Go.ChangeShapes Go.WideShapes Go.ChangeAt Go.RowKit
set_option linter.unusedVariables false
theorem same5_any {D D' : Dom} {A A' : Option Addr} {n c n' c' : Nat} {l l' : List Nat} {w : World} (hs : rpU64.sl w D A n c l) (hs' : rpU64.sl w D' A' n' c' l') (hD : ∀ k, D k → k < w.heap.size) (hD' : ∀ k, D' k → k < w.heap.size) :
    Calls Try.prog 31 #[.slice A n c, .slice A' n' c'] w fun en w' => en = .returned (.bool (dec (l = l'))) ∧ Below w.heap.size w w' := by
  obtain ⟨hlen, hnc, hcm⟩ := Rp.sl_len hs
  obtain ⟨hlen', hnc', hcm'⟩ := Rp.sl_len hs'
  unfold maxLen at hcm hcm'
  have HL := Lib.hid hs
  have HL' := Lib.hid hs'
  have HN := Lib.hid hlen
  have HN' := Lib.hid hlen'
  have HD := Lib.hid hD
  have HD' := Lib.hid hD'
  clear hs hs' hlen hlen' hD hD'
  by_cases hne : n = n'
  case neg =>
    have hd : ((n : Int) != (n' : Int)) = true := by simp; omega
    rw [dec_false (fun h : l = l' => hne (by rw [← HN.out, ← HN'.out, h]))]
    clear hne
    go_enter Try.func31, Try.ntmps31
    go_wp2_with fail
    go_ret
    exact ⟨rfl, Below.refl _ _⟩
  subst hne
  go_enter Try.func31, Try.ntmps31
  go_wp2_with fail
  go_loopw [5] (fun i wr => ∃ k : Nat, k ≤ n ∧ i = .int .i64 k ∧ Hid (∀ (j : Nat), j < k → l[j]? = l'[j]?) ∧ Below w.heap.size w wr) (fun i _ => n - (intOf i).toNat)
  case atStart => exact ⟨0, by omega, rfl, fun j h => by omega, Below.refl _ _⟩
  case round =>
    obtain ⟨k, hk, rfl, hsh, hbr⟩ := hrel
    have HB := Lib.hid hbr
    by_cases hkn : k < n
    · obtain ⟨b, off, y, rfl, hb, hy, hc, hlt⟩ := u64_at (Rp.sl_below HL.out hbr HD.out) hkn
      obtain ⟨b', off', z, rfl, hb', hz, hc', hlt'⟩ := u64_at (Rp.sl_below HL'.out hbr HD'.out) hkn
      have hd : decide ((k : Int) < (n : Int)) = true := by simp; omega
      have hk0 : (0 : Int) ≤ (k : Int) := by omega
      have hk1 : (k : Int) < (n : Int) := by omega
      have HY := Lib.hid hy
      have HZ := Lib.hid hz
      clear hy hz hbr
      by_cases hyz : y = z
      · have hq : ((y : Int) != (z : Int)) = false := by simp; omega
        have HYZ := Lib.hid hyz
        clear hyz
        go_wp2_with fail
        go_quiet (fail)
        go_wp2_with fail
        go_roundw
        case rel =>
          refine ⟨k + 1, by omega, by go_num, fun j hj => ?_, HB.out.trans ⟨rfl, rfl, rfl, Nat.le_refl _, fun _ _ => rfl⟩⟩
          rcases Nat.lt_or_ge j k with h | h
          · exact hsh.out j h
          · obtain rfl : j = k := by omega
            rw [HY.out, HZ.out, HYZ.out]
        case measure => simp [intOf]; omega
      · have hq : ((y : Int) != (z : Int)) = true := by simp; omega
        have hno := Lib.hid (show ¬ l = l' from fun h => hyz (by have h1 := HY.out; rw [h, HZ.out] at h1; injection h1 with h1; exact h1.symm))
        clear hyz
        go_wp2_with fail
        go_quiet (fail)
        go_wp2_with fail
        go_ret
        rw [dec_false hno.out]
        exact ⟨rfl, HB.out.trans ⟨rfl, rfl, rfl, Nat.le_refl _, fun _ _ => rfl⟩⟩
    · obtain rfl : k = n := by omega
      have hd : decide ((k : Int) < (k : Int)) = false := by simp
      clear hbr
      go_wp2_with fail
      go_ret
      have hyes : l = l' := List.ext_getElem? (fun j => by
        rcases Nat.lt_or_ge j k with h | h
        · exact hsh.out j h
        · rw [List.getElem?_eq_none (by rw [HN.out]; exact h), List.getElem?_eq_none (by rw [HN'.out]; exact h)])
      rw [dec_true hyes]
      exact ⟨rfl, HB.out⟩
section
variable {D D' : Dom} {A A' : Option Addr} {n c f t n' c' f' t' : Nat} {sets sets' : List (List Nat)} {w : World}
set_option maxRecDepth 100000 in
set_option maxHeartbeats 3000000 in
theorem rsame_any (hs : (rpSlice rpU64).sl w D A n c sets) (hs' : (rpSlice rpU64).sl w D' A' n' c' sets') (hD : ∀ k, D k → k < w.heap.size) (hD' : ∀ k, D' k → k < w.heap.size) :
    Calls Try.prog 43 #[.agg (stpV f t A n c), .agg (stpV f' t' A' n' c')] w fun e w' => e = .returned (.bool (dec ((f, t, sets) = (f', t', sets')))) ∧ Below w.heap.size w w' := by
  obtain ⟨hlen, hnc, hcm⟩ := Rp.sl_len hs
  obtain ⟨hlen', hnc', hcm'⟩ := Rp.sl_len hs'
  unfold maxLen at hcm hcm'
  have HA := Lib.hid (blk21 w 31 31 (stpV f t A n c) (stpV f' t' A' n' c'))
  have HB := Lib.hid (blk22 w 31 31 (stpV f t A n c) (stpV f' t' A' n' c'))
  have HZ := Lib.hid (below2 w (.cells (stpV f t A n c) 31) (.cells (stpV f' t' A' n' c') 31))
  have HS := Lib.hid hs
  have HS' := Lib.hid hs'
  have HD := Lib.hid hD
  have HD' := Lib.hid hD'
  have HN := Lib.hid hlen
  have HN' := Lib.hid hlen'
  clear hs hs' hD hD' hlen hlen'
  by_cases hf : f = f'
  case neg =>
    have q1 : ((f : Int) != (f' : Int)) = true := by simp; omega
    rw [dec_false (fun h : (f, t, sets) = (f', t', sets') => hf (by injection h))]
    clear hf
    go_enter Try.func43, Try.ntmps43
    go_wp2_with fail
    generalize World.alloc (World.alloc w _) _ = w0 at *
    have a0 := (show Blk w0 w.heap.size 31 _ from HA.out).cell 0
    have a1 := (show Blk w0 w.heap.size 31 _ from HA.out).cell 1
    have a2 := (show Blk w0 w.heap.size 31 _ from HA.out).cell 2
    have b0 := (show Blk w0 (w.heap.size + 1) 31 _ from HB.out).cell 0
    have b1 := (show Blk w0 (w.heap.size + 1) 31 _ from HB.out).cell 1
    have b2 := (show Blk w0 (w.heap.size + 1) 31 _ from HB.out).cell 2
    go_wp2_with fail
    go_ret
    exact ⟨rfl, HZ.out⟩
  subst hf
  have q1 : ((f : Int) != (f : Int)) = false := by simp
  by_cases ht : t = t'
  case neg =>
    have q2 : ((t : Int) != (t' : Int)) = true := by simp; omega
    rw [dec_false (fun h : (f, t, sets) = (f, t', sets') => ht (by injection h with _ h; injection h))]
    clear ht
    go_enter Try.func43, Try.ntmps43
    go_wp2_with fail
    generalize World.alloc (World.alloc w _) _ = w0 at *
    have a0 := (show Blk w0 w.heap.size 31 _ from HA.out).cell 0
    have a1 := (show Blk w0 w.heap.size 31 _ from HA.out).cell 1
    have a2 := (show Blk w0 w.heap.size 31 _ from HA.out).cell 2
    have b0 := (show Blk w0 (w.heap.size + 1) 31 _ from HB.out).cell 0
    have b1 := (show Blk w0 (w.heap.size + 1) 31 _ from HB.out).cell 1
    have b2 := (show Blk w0 (w.heap.size + 1) 31 _ from HB.out).cell 2
    go_wp2_with fail
    go_ret
    exact ⟨rfl, HZ.out⟩
  subst ht
  have q2 : ((t : Int) != (t : Int)) = false := by simp
  by_cases hn : n = n'
  case neg =>
    have q3 : ((n : Int) != (n' : Int)) = true := by simp; omega
    rw [dec_false (fun h : (f, t, sets) = (f, t, sets') => hn (by injection h with _ h; injection h with _ h; rw [← HN.out, ← HN'.out, h]))]
    clear hn
    go_enter Try.func43, Try.ntmps43
    go_wp2_with fail
    generalize World.alloc (World.alloc w _) _ = w0 at *
    have a0 := (show Blk w0 w.heap.size 31 _ from HA.out).cell 0
    have a1 := (show Blk w0 w.heap.size 31 _ from HA.out).cell 1
    have a2 := (show Blk w0 w.heap.size 31 _ from HA.out).cell 2
    have b0 := (show Blk w0 (w.heap.size + 1) 31 _ from HB.out).cell 0
    have b1 := (show Blk w0 (w.heap.size + 1) 31 _ from HB.out).cell 1
    have b2 := (show Blk w0 (w.heap.size + 1) 31 _ from HB.out).cell 2
    go_wp2_with fail
    go_ret
    exact ⟨rfl, HZ.out⟩
  subst hn
  have q3 : ((n : Int) != (n : Int)) = false := by simp
  go_enter Try.func43, Try.ntmps43
  go_wp2_with fail
  generalize World.alloc (World.alloc w _) _ = w0 at *
  have a0 := (show Blk w0 w.heap.size 31 _ from HA.out).cell 0
  have a1 := (show Blk w0 w.heap.size 31 _ from HA.out).cell 1
  have a2 := (show Blk w0 w.heap.size 31 _ from HA.out).cell 2
  have b0 := (show Blk w0 (w.heap.size + 1) 31 _ from HB.out).cell 0
  have b1 := (show Blk w0 (w.heap.size + 1) 31 _ from HB.out).cell 1
  have b2 := (show Blk w0 (w.heap.size + 1) 31 _ from HB.out).cell 2
  go_wp2_with fail
  clear a0 a1 a2 b0 b1 b2
  go_loopw [5] (fun i wr => ∃ k : Nat, k ≤ n ∧ i = .int .i64 k ∧ Hid (∀ (j : Nat), j < k → sets[j]? = sets'[j]?) ∧ Hid (Blk wr w.heap.size 31 (stpV f t A n c)) ∧ Hid (Blk wr (w.heap.size + 1) 31 (stpV f t A' n c')) ∧ Hid (Below w.heap.size w wr)) (fun i _ => n - (intOf i).toNat)
  case atStart => exact ⟨0, by omega, rfl, fun j h => by omega, HA.out, HB.out, HZ.out⟩
  case round =>
    clear HA HB HZ
    obtain ⟨k, hk, rfl, hsh, ha, hb, hbel⟩ := hrel
    by_cases hkn : k < n
    case pos =>
      obtain ⟨b1, off1, x, A1, c1, rfl, hb1, hx, hc1, hr1⟩ := rows_at (Rp.sl_below HS.out hbel.out HD.out) hkn
      obtain ⟨b2, off2, y, A2, c2, rfl, hb2, hy, hc2, hr2⟩ := rows_at (Rp.sl_below HS'.out hbel.out HD'.out) hkn
      have hz := hbel.out.size
      have hd : decide ((k : Int) < (n : Int)) = true := by simp; omega
      have hk0 : (0 : Int) ≤ (k : Int) := by omega
      have hk1 : (k : Int) < (n : Int) := by omega
      have hct := fun qq : Gr wr.heap.size wr => same5_any (Rp.sl_below hr1 qq.is (fun k hk => Nat.lt_of_lt_of_le (HD.out k hk) hz)) (Rp.sl_below hr2 qq.is (fun k hk => Nat.lt_of_lt_of_le (HD'.out k hk) hz)) (fun k hk => Nat.lt_of_lt_of_le (HD.out k hk) (Nat.le_trans hz qq.is.size)) (fun k hk => Nat.lt_of_lt_of_le (HD'.out k hk) (Nat.le_trans hz qq.is.size))
      have HX := Lib.hid hx
      have HY := Lib.hid hy
      have g2 := (show Blk wr w.heap.size 31 _ from ha.out).cell 2
      have g1 : ∀ qq : Gr wr.heap.size wr, qq.val.cell? ⟨w.heap.size, 2, none⟩ = _ := fun qq => (keepB (show Blk wr w.heap.size 31 _ from ha.out) qq.is).cell 2
      have g3 : ∀ qq : Gr wr.heap.size wr, qq.val.cell? ⟨w.heap.size + 1, 2, none⟩ = _ := fun qq => (keepB (show Blk wr (w.heap.size + 1) 31 _ from hb.out) qq.is).cell 2
      have g4 : ∀ qq : Gr wr.heap.size wr, qq.val.cell? ⟨b1, off1 + k, none⟩ = some (.slice A1 x.length c1) := fun qq => (qq.is.cell (p := ⟨b1, off1 + k, none⟩) (Nat.lt_of_lt_of_le (HD.out b1 hb1) hz)).trans hc1
      have g5 : ∀ qq : Gr wr.heap.size wr, qq.val.cell? ⟨b2, off2 + k, none⟩ = some (.slice A2 y.length c2) := fun qq => (qq.is.cell (p := ⟨b2, off2 + k, none⟩) (Nat.lt_of_lt_of_le (HD'.out b2 hb2) hz)).trans hc2
      clear hx hy hr1 hr2 hc1 hc2 hb1 hb2
      cases hm : dec (x = y)
      · rw [hm] at hct
        have HCT := Lib.hid hct
        have HM := Lib.hid (of_not_dec hm)
        clear hct hm
        go_wp2_with fail
        refine wp_region_grow (by kernel_rfl) (by kernel_rfl) wr.heap.size ?_
        repeat (quiet_step (((go_at_call 31; exact Gr.call _ (Nat.le_refl _) (HCT.out _)))))
        refine wpQuiet_nil ?_
        rintro w3 ⟨⟨_, hb3⟩, rfl⟩
        clear g1 g2 g3 g4 g5
        go_wp2_with fail
        go_ret
        rw [dec_false (fun h : (f, t, sets) = (f, t, sets') => HM.out (by injection h with _ h; injection h with _ h; have e1 := HX.out; rw [h, HY.out] at e1; injection e1 with e1; exact e1.symm))]
        exact ⟨rfl, stepB hbel.out hb3⟩
      · rw [hm] at hct
        have HCT := Lib.hid hct
        have HM := Lib.hid (of_dec hm)
        clear hct hm
        go_wp2_with fail
        refine wp_region_grow (by kernel_rfl) (by kernel_rfl) wr.heap.size ?_
        repeat (quiet_step (((go_at_call 31; exact Gr.call _ (Nat.le_refl _) (HCT.out _)))))
        refine wpQuiet_nil ?_
        rintro w3 ⟨⟨_, hb3⟩, rfl⟩
        clear g1 g2 g3 g4 g5
        go_wp2_with fail
        go_roundw
        case rel =>
          refine ⟨k + 1, by omega, by go_num, fun j hj => ?_, keepB ha.out hb3, keepB hb.out hb3, stepB hbel.out hb3⟩
          rcases Nat.lt_or_ge j k with h | h
          · exact hsh.out j h
          · obtain rfl : j = k := by omega
            rw [HX.out, HY.out, HM.out]
        case measure => simp [intOf]; omega
    case neg =>
      obtain rfl : k = n := by omega
      have hd : decide ((k : Int) < (k : Int)) = false := by simp
      have g2 := (show Blk wr w.heap.size 31 _ from ha.out).cell 2
      go_wp2_with fail
      go_ret
      have hyes : sets = sets' := List.ext_getElem? (fun j => by
        rcases Nat.lt_or_ge j k with h | h
        · exact hsh.out j h
        · rw [List.getElem?_eq_none (by rw [HN.out]; exact h), List.getElem?_eq_none (by rw [HN'.out]; exact h)])
      rw [dec_true (show (f, t, sets) = (f, t, sets') by rw [hyes])]
      exact ⟨rfl, hbel.out⟩
end
end Go.Proofs.Ytmdgmnaaopineaa
/- ref20.Same; the example of chapter 20's laws. -/
namespace Go.Proofs.Ytmdgmnaaopineaa
open Go.ChangeShapes Go.WideShapes Go.ChangeAt Go.RowKit
set_option linter.unusedVariables false
section
variable {D D' : Dom} {A A' : Option Addr} {n n' c c' e e' : Nat} {l l' : List Stp} {w : World}
set_option maxRecDepth 100000 in
set_option maxHeartbeats 4000000 in
theorem rpsame_any (hs : rpStp.sl w D A n c l) (hs' : rpStp.sl w D' A' n' c' l') (hD : ∀ k, D k → k < w.heap.size) (hD' : ∀ k, D' k → k < w.heap.size) :
    Calls Try.prog 36 #[.agg (prjV e A n c), .agg (prjV e' A' n' c')] w fun en w' => en = .returned (.bool (dec ((e, l) = (e', l')))) ∧ Below w.heap.size w w' := by
  have hlen := (Rp.sl_len hs).1
  have hlen' := (Rp.sl_len hs').1
  have HZ := Lib.hid (below2 w (.cells (prjV e A n c) 25) (.cells (prjV e' A' n' c') 25))
  have HA := Lib.hid (blk21 w 25 25 (prjV e A n c) (prjV e' A' n' c'))
  have HB := Lib.hid (blk22 w 25 25 (prjV e A n c) (prjV e' A' n' c'))
  have HS := Lib.hid (show Sl rpStp w D A n c l from ⟨hs, hD⟩)
  have HS' := Lib.hid (show Sl rpStp w D' A' n' c' l' from ⟨hs', hD'⟩)
  have HN := Lib.hid hlen
  have HN' := Lib.hid hlen'
  have hnm : n ≤ 9223372036854775807 := by have := (Rp.sl_len hs).2; unfold maxLen at this; omega
  clear hs hs' hD hD' hlen hlen'
  by_cases he : e = e'
  case neg =>
    have q1 : ((e : Int) != (e' : Int)) = true := by simp; omega
    rw [dec_false (fun h : (e, l) = (e', l') => he (by injection h))]
    clear he
    go_enter Try.func36, Try.ntmps36
    go_wp2_with fail
    generalize World.alloc (World.alloc w _) _ = w0 at *
    have a0 := (show Blk w0 w.heap.size 25 _ from HA.out).cell 0
    have a1 := (show Blk w0 w.heap.size 25 _ from HA.out).cell 1
    have b0 := (show Blk w0 (w.heap.size + 1) 25 _ from HB.out).cell 0
    have b1 := (show Blk w0 (w.heap.size + 1) 25 _ from HB.out).cell 1
    go_wp2_with fail
    go_ret
    exact ⟨rfl, HZ.out⟩
  subst he
  have q1 : ((e : Int) != (e : Int)) = false := by simp
  by_cases hn : n = n'
  case neg =>
    have q3 : ((n : Int) != (n' : Int)) = true := by simp; omega
    rw [dec_false (fun h : (e, l) = (e, l') => hn (by injection h with _ h; rw [← HN.out, ← HN'.out, h]))]
    clear hn
    go_enter Try.func36, Try.ntmps36
    go_wp2_with fail
    generalize World.alloc (World.alloc w _) _ = w0 at *
    have a0 := (show Blk w0 w.heap.size 25 _ from HA.out).cell 0
    have a1 := (show Blk w0 w.heap.size 25 _ from HA.out).cell 1
    have b0 := (show Blk w0 (w.heap.size + 1) 25 _ from HB.out).cell 0
    have b1 := (show Blk w0 (w.heap.size + 1) 25 _ from HB.out).cell 1
    go_wp2_with fail
    go_ret
    exact ⟨rfl, HZ.out⟩
  subst hn
  have q3 : ((n : Int) != (n : Int)) = false := by simp
  go_enter Try.func36, Try.ntmps36
  go_wp2_with fail
  generalize World.alloc (World.alloc w _) _ = w0 at *
  have a0 := (show Blk w0 w.heap.size 25 _ from HA.out).cell 0
  have a1 := (show Blk w0 w.heap.size 25 _ from HA.out).cell 1
  have b0 := (show Blk w0 (w.heap.size + 1) 25 _ from HB.out).cell 0
  have b1 := (show Blk w0 (w.heap.size + 1) 25 _ from HB.out).cell 1
  go_wp2_with fail
  clear a0 a1 b0 b1
  go_loopw [5] (fun i wr => ∃ k : Nat, k ≤ n ∧ i = .int .i64 k ∧ Hid (∀ (j : Nat), j < k → l[j]? = l'[j]?) ∧ Hid (Blk wr w.heap.size 25 (prjV e A n c)) ∧ Hid (Blk wr (w.heap.size + 1) 25 (prjV e A' n c')) ∧ Hid (Below w.heap.size w wr)) (fun i _ => n - (intOf i).toNat)
  case atStart => exact ⟨0, by omega, rfl, fun j h => by omega, HA.out, HB.out, HZ.out⟩
  case round =>
    clear HA HB HZ
    obtain ⟨k, hk, rfl, hsh, ha, hb, hbel⟩ := hrel
    by_cases hkn : k < n
    case pos =>
      have hsr := keepS HS.out hbel.out
      have hsr' := keepS HS'.out hbel.out
      obtain ⟨b1, off1, s, A1, c1, rfl, hb1, hx, g10, g11, g12, hr1, hs1, hs2⟩ := stps_at hsr.1 hkn
      obtain ⟨b2, off2, t, A2, c2, rfl, hb2, hy, g20, g21, g22, hr2, ht1, ht2⟩ := stps_at hsr'.1 hkn
      have hl1 := hsr.2 _ hb1
      have hl2 := hsr'.2 _ hb2
      obtain ⟨sf, st, ss⟩ := s
      obtain ⟨tf, tt, ts⟩ := t
      simp only at g10 g11 g12 hr1 hs1 hs2 g20 g21 g22 hr2 ht1 ht2
      have hz := hbel.out.size
      have hd : decide ((k : Int) < (n : Int)) = true := by simp; omega
      have hk0 : (0 : Int) ≤ (k : Int) := by omega
      have hk1 : (k : Int) < (n : Int) := by omega
      have hct := fun qq : Gr wr.heap.size wr => rsame_any (f := sf) (t := st) (f' := tf) (t' := tt) (Rp.sl_below hr1 qq.is hsr.2) (Rp.sl_below hr2 qq.is hsr'.2) (fun k hk => Nat.lt_of_lt_of_le (hsr.2 k hk) qq.is.size) (fun k hk => Nat.lt_of_lt_of_le (hsr'.2 k hk) qq.is.size)
      have HX := Lib.hid hx
      have HY := Lib.hid hy
      have g2 := (show Blk wr w.heap.size 25 _ from ha.out).cell 1
      have g1 : ∀ qq : Gr wr.heap.size wr, qq.val.cell? ⟨w.heap.size, 1, none⟩ = _ := fun qq => (keepB (show Blk wr w.heap.size 25 _ from ha.out) qq.is).cell 1
      have g3 : ∀ qq : Gr wr.heap.size wr, qq.val.cell? ⟨w.heap.size + 1, 1, none⟩ = _ := fun qq => (keepB (show Blk wr (w.heap.size + 1) 25 _ from hb.out) qq.is).cell 1
      have p0 : ∀ qq : Gr wr.heap.size wr, qq.val.cell? ⟨b1, off1 + k * 3, none⟩ = some (.int .u64 (sf : Int)) := fun qq => (qq.is.cell (p := ⟨b1, off1 + k * 3, none⟩) hl1).trans g10
      have p1 : ∀ qq : Gr wr.heap.size wr, qq.val.cell? ⟨b1, off1 + k * 3 + 1, none⟩ = some (.int .u64 (st : Int)) := fun qq => (qq.is.cell (p := ⟨b1, off1 + k * 3 + 1, none⟩) hl1).trans g11
      have p2 : ∀ qq : Gr wr.heap.size wr, qq.val.cell? ⟨b1, off1 + k * 3 + 2, none⟩ = some (.slice A1 ss.length c1) := fun qq => (qq.is.cell (p := ⟨b1, off1 + k * 3 + 2, none⟩) hl1).trans g12
      have q0 : ∀ qq : Gr wr.heap.size wr, qq.val.cell? ⟨b2, off2 + k * 3, none⟩ = some (.int .u64 (tf : Int)) := fun qq => (qq.is.cell (p := ⟨b2, off2 + k * 3, none⟩) hl2).trans g20
      have q1 : ∀ qq : Gr wr.heap.size wr, qq.val.cell? ⟨b2, off2 + k * 3 + 1, none⟩ = some (.int .u64 (tt : Int)) := fun qq => (qq.is.cell (p := ⟨b2, off2 + k * 3 + 1, none⟩) hl2).trans g21
      have q2 : ∀ qq : Gr wr.heap.size wr, qq.val.cell? ⟨b2, off2 + k * 3 + 2, none⟩ = some (.slice A2 ts.length c2) := fun qq => (qq.is.cell (p := ⟨b2, off2 + k * 3 + 2, none⟩) hl2).trans g22
      clear hx hy hr1 hr2 hb1 hb2 g10 g11 g12 g20 g21 g22 hs1 hs2 ht1 ht2 hsr hsr'
      cases hm : dec ((sf, st, ss) = (tf, tt, ts))
      case false =>
        rw [hm] at hct
        have HCT := Lib.hid hct
        have HM := Lib.hid (of_not_dec hm)
        clear hct hm
        go_wp2_with fail
        refine wp_region_grow (by kernel_rfl) (by kernel_rfl) wr.heap.size ?_
        repeat (quiet_step (((go_at_call 43; exact Gr.call _ (Nat.le_refl _) (HCT.out _)))))
        refine wpQuiet_nil ?_
        rintro w3 ⟨⟨_, hb3⟩, rfl⟩
        clear g1 g2 g3 p0 p1 p2 q0 q1 q2
        go_wp2_with fail
        go_ret
        rw [dec_false (fun h : (e, l) = (e, l') => HM.out (by injection h with _ h; have e1 := HX.out; rw [h, HY.out] at e1; injection e1 with e1; exact e1.symm))]
        exact ⟨rfl, stepB hbel.out hb3⟩
      case true =>
        rw [hm] at hct
        have HCT := Lib.hid hct
        have HM := Lib.hid (of_dec hm)
        clear hct hm
        go_wp2_with fail
        refine wp_region_grow (by kernel_rfl) (by kernel_rfl) wr.heap.size ?_
        repeat (quiet_step (((go_at_call 43; exact Gr.call _ (Nat.le_refl _) (HCT.out _)))))
        refine wpQuiet_nil ?_
        rintro w3 ⟨⟨_, hb3⟩, rfl⟩
        clear g1 g2 g3 p0 p1 p2 q0 q1 q2
        go_wp2_with fail
        go_roundw
        case rel =>
          refine ⟨k + 1, by omega, by go_num, fun j hj => ?_, keepB ha.out hb3, keepB hb.out hb3, stepB hbel.out hb3⟩
          rcases Nat.lt_or_ge j k with h | h
          · exact hsh.out j h
          · obtain rfl : j = k := by omega
            rw [HX.out, HY.out, HM.out]
        case measure => simp [intOf]; omega
    case neg =>
      obtain rfl : k = n := by omega
      have hd : decide ((k : Int) < (k : Int)) = false := by simp
      have g2 := (show Blk wr w.heap.size 25 _ from ha.out).cell 1
      go_wp2_with fail
      go_ret
      have hyes : l = l' := List.ext_getElem? (fun j => by
        rcases Nat.lt_or_ge j k with h | h
        · exact hsh.out j h
        · rw [List.getElem?_eq_none (by rw [HN.out]; exact h), List.getElem?_eq_none (by rw [HN'.out]; exact h)])
      rw [dec_true (show (e, l) = (e, l') by rw [hyes])]
      exact ⟨rfl, hbel.out⟩
end
end Go.Proofs.Ytmdgmnaaopineaa
/- The reference's bytes of a stripe. -/
namespace Go.Proofs.Ytmdgmnaaopineaa
open Go.ChangeShapes Go.WideShapes Go.ChangeAt Go.RowKit
set_option linter.unusedVariables false
def pk (T n : Nat) (sets : List (List Nat)) (k : Nat) : List UInt8 := flat (T :: n :: ((sets.take k).map setn).flatten)
theorem pk_zero (T n : Nat) (sets : List (List Nat)) : pk T n sets 0 = vbytes T ++ vbytes n := by simp [pk, flat_cons, flat_nil]
theorem pk_step {T n k : Nat} {sets : List (List Nat)} {x : List Nat} (h : sets[k]? = some x) : pk T n sets (k + 1) = pk T n sets k ++ vbytes x.length ++ flat (stepsFrom none x) := by
  unfold pk
  rw [List.take_add_one, h]
  simp [flat_cons, flat_append, setn]
theorem pk_end {f t : Nat} {sets : List (List Nat)} : pk (t - f - 1) sets.length sets sets.length = stb (f, t, sets) := by
  unfold pk stb stn
  rw [List.take_length]
theorem vbytes_bv {x : Nat} (h : x < 128) : (vbytes x).map bv = [.int .u8 (x : Int)] := by
  rw [vbytes_lt h]
  show [Value.int .u8 ((UInt8.ofNat x).toNat : Int)] = _
  rw [ofNat_small (by omega)]
section
variable {D : Dom} {A : Option Addr} {n c f t : Nat} {sets : List (List Nat)} {w : World}
set_option maxRecDepth 100000 in
set_option maxHeartbeats 3000000 in
theorem rsb_any (hs : (rpSlice rpU64).sl w D A n c sets) (hD : ∀ k, D k → k < w.heap.size) (hok : SOk (f, t, sets)) :
    Calls Try.prog 48 #[.agg (stpV f t A n c)] w fun e w' => ∃ A2 m c2, e = .returned (.slice A2 m c2) ∧ w'.ownsRow w.heap.size 5 1 (.slice A2 m c2) m ((stb (f, t, sets)).map bv) ∧ Below w.heap.size w w' := by
  obtain ⟨hlen, hnc, hcm⟩ := Rp.sl_len hs
  obtain ⟨hft, ht62, hn1, hn8, hset⟩ := hok
  simp only at hft ht62 hn1 hn8 hset
  subst hlen
  rw [← pk_end]
  have HV : Hid (∀ (x : Nat) (w : World), x < 18446744073709551616 → Calls Try.prog 101 #[.int .u64 (x : Int)] w fun e w' => ∃ A n c, e = .returned (.slice A n c) ∧ w'.ownsRow w.heap.size 5 1 (.slice A n c) n ((vbytes x).map bv) ∧ n ≤ 10 ∧ Below w.heap.size w w') := fun x w hx => (rvbytes_any 9 x w (by omega) (by decide) hx).mono fun e w' ⟨A, n, c, h1, h2, h3⟩ => ⟨A, n, c, h1, h2, by have := h2.1; have := vbytes_10 hx; simp at *; omega, h3⟩
  have HL : Hid (∀ (k b off : Nat) (x : List Nat) (A2 : Option Addr) (c2 : Nat), sets[k]? = some x → rpU64.sl w D A2 x.length c2 x → ∀ w', Below w.heap.size w w' → Calls Try.prog 102 #[.slice A2 x.length c2] w' fun e w'' => ∃ A2 m c2, e = .returned (.slice A2 m c2) ∧ w''.ownsRow w'.heap.size 5 1 (.slice A2 m c2) m ((flat (stepsFrom none x)).map bv) ∧ m ≤ 80 ∧ Below w'.heap.size w' w'') := fun k b off x A2 c2 hx hr w' hb => by
    obtain ⟨⟨h1, h2, h3, h4⟩, _⟩ := setOk_iff.1 (hset k x hx)
    exact (rlbytes_any (Rp.sl_below hr hb hD) (fun k hk => Nat.lt_of_lt_of_le (hD k hk) hb.size) h3 (by omega)).mono fun e w'' ⟨A, n, c, h1, h2, h3, h4⟩ => ⟨A, n, c, h1, h2, by omega, h4⟩
  have HLEN : Hid (∀ (k : Nat) (x : List Nat), sets[k]? = some x → x.length ≤ 8) := fun k x hx => (setOk_iff.1 (hset k x hx)).1.2.1
  obtain ⟨T, hT⟩ : ∃ T, T = t - f - 1 := ⟨_, rfl⟩
  rw [← hT]
  have s0 : IntKind.u64.wrap ((t : Int) - (f : Int)) = (t : Int) - (f : Int) := IntWalk.u64_in _ (by omega)
  have s1 : IntKind.u64.wrap ((t : Int) - (f : Int) - 1) = (T : Int) := by rw [IntWalk.u64_in _ (by omega)]; omega
  have s2 : IntKind.u8.wrap (sets.length : Int) = (sets.length : Int) := IntWalk.u8_in _ (by omega)
  have HT64 : Hid (T < 18446744073709551616) := (by omega : T < 18446744073709551616)
  have HK0 := Lib.hid (blk11 w 31 (stpV f t A sets.length c))
  have HB0 := Lib.hid (below1 w (.cells (stpV f t A sets.length c) 31))
  have HS := Lib.hid hs
  have HD := Lib.hid hD
  have HN8 := Lib.hid hn8
  have HS2 := Lib.hid (vbytes_bv (x := sets.length) (by omega))
  clear hs hD hset hT hft ht62 hnc hcm
  generalize sets.length = N at *
  go_enter Try.func48, Try.ntmps48
  go_wp2_with fail
  generalize World.alloc w _ = w0 at *
  have k0 := (show Blk w0 _ _ _ from HK0.out).cell 0
  have k1 := (show Blk w0 _ _ _ from HK0.out).cell 1
  go_wp2_with fail
  refine (HV.out T _ HT64.out).mono ?_; rintro e w1 ⟨A1, n1, c1, rfl, ho1, hn1', hb1⟩
  have HO1 := Lib.hid (own_mono ho1 HB0.out.size)
  have HK1 := Lib.hid (keepB (show Blk w0 w.heap.size 31 _ from HK0.out) hb1)
  have HB1 := Lib.hid (stepB HB0.out hb1)
  have k2 := (show Blk w1 w.heap.size 31 _ from HK1.out).cell 2
  clear k0 k1 ho1 hb1 s0 s1
  have hmx : n1 + 1 ≤ maxLen := by unfold maxLen; omega
  go_wp2_with (at_builtin; refine wpList_app rfl (.tmp 12) (.tmp 17) _ rfl elemB rfl (HO1.out.alloc _) rfl (Src.new w1 (.int .u8 (N : Int)) _ rfl) hmx (by omega) (by have := HB1.out.size; simp; omega) ?_; intro A5 c5 w5 ho5 hg5 hat5; have HO5 := Lib.hid ho5; have HK5 := Lib.hid ((keepB (show Blk w1 w.heap.size 31 _ from HK1.out) (below1 w1 (.cells #[.int .u8 (N : Int)] 5))).grown hg5 (Pen.ne' (keepB (show Blk w1 w.heap.size 31 _ from HK1.out) (below1 w1 (.cells #[.int .u8 (N : Int)] 5))) (HO1.out.alloc _) (by decide))); have HB5 := Lib.hid ((stepB HB1.out (below1 w1 (.cells #[.int .u8 (N : Int)] 5))).grown hg5 (stepB HB1.out (below1 w1 (.cells #[.int .u8 (N : Int)] 5))).size (fun j hj => (HO1.out.lt j hj).1)); clear ho5 hg5 hat5 k2)
  go_loopw [3, 4] (fun o i wr => ∃ (k m : Nat) (A2 : Option Addr) (c2 : Nat), k ≤ N ∧ i = .int .i64 k ∧ o = .slice A2 m c2 ∧ m ≤ 20 + 90 * k ∧ Hid (wr.ownsRow w.heap.size 5 1 (.slice A2 m c2) m ((pk T N sets k).map bv)) ∧ Hid (Blk wr w.heap.size 31 (stpV f t A N c)) ∧ Hid (Below w.heap.size w wr)) (fun _ i _ => N - (intOf i).toNat)
  case atStart => exact ⟨0, n1 + 1, A5, c5, by omega, rfl, rfl, by omega, by rw [pk_zero, List.map_append, HS2.out]; exact HO5.out, HK5.out, HB5.out⟩
  case round =>
    clear HO1 HK1 HB1 HO5 HK5 HB5
    obtain ⟨k, m, A2, c2, hk, rfl, rfl, hm, hown, hkb, hbel⟩ := hrel
    have k2 := (show Blk wr w.heap.size 31 _ from hkb.out).cell 2
    by_cases hkn : k < N
    case neg =>
      obtain rfl : k = N := by omega
      have hd : decide ((k : Int) < (k : Int)) = false := by simp
      go_wp2_with fail
      go_ret
      exact ⟨A2, m, c2, rfl, hown.out, hbel.out⟩
    case pos =>
      have hd : decide ((k : Int) < (N : Int)) = true := by simp; omega
      have hkI : (0 : Int) ≤ (k : Int) := by omega
      have hknI : (k : Int) < (N : Int) := by omega
      obtain ⟨b, off, x, A3, c3, rfl, hb, hx, hcell, hrow⟩ := rows_at HS.out hkn
      have hblt := HD.out b hb
      have HC := Lib.hid hcell
      have hcw := (hbel.out.cell (p := ⟨b, off + k, none⟩) hblt).trans hcell
      have HBL := Lib.hid hblt
      have hx8 := HLEN.out k x hx
      have s3 : IntKind.u8.wrap (x.length : Int) = (x.length : Int) := IntWalk.u8_in _ (by omega)
      have HX := Lib.hid (vbytes_bv (x := x.length) (by omega))
      have HSTEP := Lib.hid (pk_step (T := T) (n := N) hx)
      have HCALL := Lib.hid (HL.out k b off x A3 c3 hx hrow)
      have hmx2 : m + 1 ≤ maxLen := by unfold maxLen; omega
      have hzz := hbel.out.size
      clear hx hrow hcell hblt hb
      generalize x.length = X at *
      go_wp2_with (at_builtin; refine wpList_app rfl (.tmp 26) (.tmp 34) _ rfl elemB rfl (hown.out.alloc _) rfl (Src.new wr (.int .u8 (X : Int)) _ rfl) hmx2 (by omega) (by simp; omega) ?_; intro A5 c5 w5 ho5 hg5 hat5; have HO5 := Lib.hid ho5; have HK5 := Lib.hid ((keepB (show Blk wr w.heap.size 31 _ from hkb.out) (below1 wr (.cells #[.int .u8 (X : Int)] 5))).grown hg5 (Pen.ne' (keepB (show Blk wr w.heap.size 31 _ from hkb.out) (below1 wr (.cells #[.int .u8 (X : Int)] 5))) (hown.out.alloc _) (by decide))); have HB5 := Lib.hid ((stepB hbel.out (below1 wr (.cells #[.int .u8 (X : Int)] 5))).grown hg5 (stepB hbel.out (below1 wr (.cells #[.int .u8 (X : Int)] 5))).size (fun j hj => (hown.out.lt j hj).1)); clear ho5 hg5 hat5 k2 hcw; have k2 := (show Blk w5 w.heap.size 31 _ from HK5.out).cell 2; have hcw := (HB5.out.cell (p := ⟨b, off + k, none⟩) HBL.out).trans HC.out)
      refine (HCALL.out _ HB5.out).mono ?_; rintro e w6 ⟨A6, n6, c6, rfl, ho6, hn6, hb6⟩
      have HO6 := Lib.hid ho6
      have HO7 := Lib.hid (keepO HO5.out hb6)
      have HK7 := Lib.hid (keepB (show Blk w5 w.heap.size 31 _ from HK5.out) hb6)
      have HB7 := Lib.hid (stepB HB5.out hb6)
      clear ho6 hb6 k2 hcw
      have hmx3 : m + 1 + n6 ≤ maxLen := by unfold maxLen; omega
      go_wp2_with (at_builtin; refine wpList_app rfl (.tmp 36) (.tmp 42) _ rfl elemB rfl HO7.out rfl (Src.bytes (own_bytes HO6.out)) hmx3 (by omega) HB7.out.size ?_; intro A8 c8 w8 ho8 hg8 hat8; have HO8 := Lib.hid ho8; have HK8 := Lib.hid ((show Blk w6 w.heap.size 31 _ from HK7.out).grown hg8 (Pen.ne' (show Blk w6 w.heap.size 31 _ from HK7.out) HO7.out (by decide))); have HB8 := Lib.hid (HB7.out.grown hg8 HB7.out.size (fun j hj => (HO7.out.lt j hj).1)); clear ho8 hg8 hat8)
      go_roundw
      case rel => exact ⟨k + 1, m + 1 + n6, A8, c8, by omega, by go_num, rfl, by omega, by rw [HSTEP.out, List.map_append, List.map_append, HX.out]; exact HO8.out, HK8.out, HB8.out⟩
      case measure => simp [intOf]; omega
end
end Go.Proofs.Ytmdgmnaaopineaa
/- The reference's bytes of a projection. -/
namespace Go.Proofs.Ytmdgmnaaopineaa
open Go.ChangeShapes Go.WideShapes Go.ChangeAt Go.RowKit
set_option linter.unusedVariables false
theorem pb_zero (e N : Nat) (l : List Stp) : flat (pm e N l 0) = vbytes e ++ vbytes N := by rw [pm_zero]; simp [flat_cons, flat_nil]
theorem pb_step {e N k : Nat} {l : List Stp} {s : Stp} (h : l[k]? = some s) : flat (pm e N l (k + 1)) = flat (pm e N l k) ++ stb s := by
  rw [pm_step h, flat_append]; rfl
section
variable {D : Dom} {A : Option Addr} {n c e : Nat} {l : List Stp} {w : World}
set_option maxRecDepth 100000 in
set_option maxHeartbeats 4000000 in
theorem rpb_any (hs : rpStp.sl w D A n c l) (hD : ∀ k, D k → k < w.heap.size) (hok : POk (e, l)) :
    Calls Try.prog 60 #[.agg (prjV e A n c)] w fun en w' => ∃ A2 m c2, en = .returned (.slice A2 m c2) ∧ w'.ownsRow w.heap.size 5 1 (.slice A2 m c2) m ((prb (e, l)).map bv) ∧ Below w.heap.size w w' := by
  obtain ⟨hlen, hnc, hcm⟩ := Rp.sl_len hs
  have heo := hok.1.1.1
  have hn1 := hok.1.1.2.1
  have hn64 := hok.1.1.2.2
  simp only at heo hn1 hn64
  have hstr := pOk_stripes hok
  simp only at hstr
  subst hlen
  have hpe : prb (e, l) = flat (pm e l.length l l.length) := by rw [pm_end]; rfl
  rw [hpe]
  have HV : Hid (∀ (x : Nat) (w : World), x < 18446744073709551616 → Calls Try.prog 101 #[.int .u64 (x : Int)] w fun e w' => ∃ A n c, e = .returned (.slice A n c) ∧ w'.ownsRow w.heap.size 5 1 (.slice A n c) n ((vbytes x).map bv) ∧ n ≤ 10 ∧ Below w.heap.size w w') := fun x w hx => (rvbytes_any 9 x w (by omega) (by decide) hx).mono fun e w' ⟨A, n, c, h1, h2, h3⟩ => ⟨A, n, c, h1, h2, by have := h2.1; have := vbytes_10 hx; simp at *; omega, h3⟩
  have s2 : IntKind.u8.wrap (l.length : Int) = (l.length : Int) := IntWalk.u8_in _ (by omega)
  have HE64 : Hid (e < 18446744073709551616) := by show e < 18446744073709551616; have := heo.2; omega
  have HK0 := Lib.hid (blk11 w 25 (prjV e A l.length c))
  have HB0 := Lib.hid (below1 w (.cells (prjV e A l.length c) 25))
  have HS := Lib.hid (keepS (show Sl rpStp w D A l.length c l from ⟨hs, hD⟩) (below1 w (.cells (prjV e A l.length c) 25)))
  have HSTR := Lib.hid hstr
  have HS2 := Lib.hid (vbytes_bv (x := l.length) (by omega))
  clear hs hD hnc hcm hpe heo hstr hok
  generalize hN : l.length = N at *
  clear hN
  go_enter Try.func60, Try.ntmps60
  go_wp2_with fail
  generalize World.alloc w _ = w0 at *
  have k0 := (show Blk w0 _ _ _ from HK0.out).cell 0
  have k1 := (show Blk w0 _ _ _ from HK0.out).cell 1
  have hz0 := HB0.out.size
  go_wp2_with fail
  have HLTA : Hid (w0.heap.size < (w0.alloc (.cells #[.int .u8 (N : Int)] 5)).heap.size) := by show w0.heap.size < _; simp
  have HCELL : Hid ((w0.alloc (.cells #[.int .u8 (N : Int)] 5)).cell? ⟨w0.heap.size, 0, none⟩ = some (.int .u8 (N : Int))) := (Blk.new w0 _ _).cell 0
  go_region_held3 (fun w' => w'.cell? ⟨w.heap.size, 0, none⟩ = some (.int .u64 (e : Int)) ∧ w'.cell? ⟨w.heap.size, 1, none⟩ = some (.slice A N c)) (first | go_keep | exact ⟨k0, k1⟩)
    ((first
      | (refine step_push_byte rfl (.tmp 7) (.tmp 12) _ rfl elemB rfl (by first | exact HO1.out | exact HO1.out.alloc _) (by omega) (by first | exact HZ1.out | (simp; have := HZ1.out; omega)) rfl (by first | exact hcb | (simp; rfl)) (by omega) (by omega) ?_
         intro u A5 c5 w5 hu ho5 hg5 hat5
         have HU := Lib.hid hu
         have HO5 := Lib.hid ho5
         have HB5 : Hid (Below w0.heap.size w0 w5) := by
           first
             | exact HB1.out.grown hg5 HB1.out.size (fun j hj => (HO1.out.lt j hj).1)
             | exact (HB1.out.alloc HB1.out.size _).grown hg5 (HB1.out.alloc HB1.out.size _).size (fun j hj => (HO1.out.lt j hj).1)
         have hk5 := keepB (show Blk w0 w.heap.size 25 _ from HK0.out) HB5.out
         have k0 := hk5.cell 0
         have k1 := hk5.cell 1
         clear hu ho5 hg5 hat5 hk5)
      | (go_at_call 101; refine (HV.out e _ HE64.out).mono ?_; rintro en w1 ⟨A1, n1, c1, rfl, ho1, hn1', hb1⟩
         have HB1 : Hid (Below w0.heap.size w0 w1) := by
           first
             | exact (show Below w0.heap.size w0 w1 from ⟨hb1.os, hb1.tape, hb1.output, hb1.size, hb1.block⟩)
             | exact stepB (below1 w0 (.cells #[.int .u8 (N : Int)] 5)) (show Below (w0.alloc _).heap.size (w0.alloc _) w1 from ⟨hb1.os, hb1.tape, hb1.output, hb1.size, hb1.block⟩)
         have HZ1 : Hid (w0.heap.size ≤ w1.heap.size) := HB1.out.size
         have HO1 : Hid (w1.ownsRow w0.heap.size 5 1 (.slice A1 n1 c1) n1 ((vbytes e).map bv)) := own_mono ho1 (by first | exact Nat.le_refl _ | (simp; done))
         try (have hcb := (hb1.cell (p := ⟨w0.heap.size, 0, none⟩) HLTA.out).trans HCELL.out)
         have hk1 := keepB (show Blk w0 w.heap.size 25 _ from HK0.out) HB1.out
         have k0 := hk1.cell 0
         have k1 := hk1.cell 1
         clear ho1 hk1)))
  all_goals
    have HOW : Hid (w5.ownsRow w0.heap.size 5 1 (.slice A5 (n1 + 1) c5) (n1 + 1) ((flat (pm e N l 0)).map bv)) := by
      have h1 := HO5.out
      have h2 : [u].map bv = [Value.int .u8 (N : Int)] := by
        show [Value.int .u8 ((u.toNat : Nat) : Int)] = _
        rw [HU.out]
      rw [List.map_append, h2] at h1
      rw [pb_zero, List.map_append, HS2.out]
      exact h1
    clear k0 k1
    go_wp2_with fail
    go_loopw [3, 4] (fun o i wr => ∃ (k m : Nat) (A2 : Option Addr) (c2 : Nat), k ≤ N ∧ i = .int .i64 k ∧ o = .slice A2 m c2 ∧ m ≤ 30 + 400 * k ∧ Hid (wr.ownsRow w0.heap.size 5 1 (.slice A2 m c2) m ((flat (pm e N l k)).map bv)) ∧ Hid (Below w0.heap.size w0 wr)) (fun _ i _ => N - (intOf i).toNat)
    case atStart => exact ⟨0, n1 + 1, A5, c5, by omega, rfl, rfl, by omega, HOW.out, HB5.out⟩
    case round =>
      clear HOW HB5 HO5 HO1 HB1
      obtain ⟨k, m, A2, c2, hk, rfl, rfl, hm, hown, hbel0⟩ := hrel
      have hkb := keepB (show Blk w0 w.heap.size 25 _ from HK0.out) hbel0.out
      have k1 := hkb.cell 1
      clear hkb
      by_cases hkn : k < N
      case neg =>
        obtain rfl : N = k := by omega
        have hd : decide ((N : Int) < (N : Int)) = false := by simp
        go_wp2_with fail
        go_ret
        exact ⟨A2, m, c2, rfl, own_mono hown.out hz0, stepB HB0.out hbel0.out⟩
      case pos =>
        have hd : decide ((k : Int) < (N : Int)) = true := by simp; omega
        have hkI : (0 : Int) ≤ (k : Int) := by omega
        have hkI2 : (k : Int) < (N : Int) := by omega
        have hsr := keepS HS.out hbel0.out
        obtain ⟨bo, off, s, A3, c3, rfl, hbD, hx, g0, g1, g2, hrow, hs1, hs2⟩ := stps_at hsr.1 hkn
        obtain ⟨sf, st, ss⟩ := s
        simp only at g0 g1 g2 hrow hs1 hs2
        have hoks := HSTR.out _ (List.mem_of_getElem? hx)
        have HSB := Lib.hid (rsb_any hrow hsr.2 hoks)
        have HLB := Lib.hid (stb_len2 hoks)
        have HSTEP := Lib.hid (pb_step (e := e) (N := N) hx)
        clear hx hrow hsr hoks hbD
        go_wp2_with fail
        refine HSB.out.mono ?_; rintro en w6 ⟨A6, n6, c6, rfl, ho6, hb6⟩
        have hn6 : n6 ≤ 400 := by
          have h1 := ho6.1
          have h2 := HLB.out
          have h3 : (stb (sf, st, ss)).length = (flat (stn (sf, st, ss))).length := rfl
          simp at h1
          omega
        have HO6 := Lib.hid ho6
        have HO7 := Lib.hid (keepO hown.out hb6)
        have HB7 := Lib.hid (stepB hbel0.out hb6)
        have hmx3 : m + n6 ≤ maxLen := by unfold maxLen; omega
        clear ho6 hb6 g0 g1 g2 k1
        go_wp2_with (at_builtin; refine wpList_app rfl (.tmp 21) (.tmp 27) _ rfl elemB rfl HO7.out rfl (Src.bytes (own_bytes HO6.out)) hmx3 (by omega) HB7.out.size ?_; intro A8 c8 w8 ho8 hg8 hat8; have HO8 := Lib.hid ho8; have HB8 := Lib.hid (HB7.out.grown hg8 HB7.out.size (fun j hj => (HO7.out.lt j hj).1)); clear ho8 hg8 hat8)
        go_roundw
        case rel => exact ⟨k + 1, m + n6, A8, c8, by omega, by go_num, rfl, by omega, by rw [HSTEP.out, List.map_append]; exact HO8.out, HB8.out⟩
        case measure => simp [intOf]; omega
end
end Go.Proofs.Ytmdgmnaaopineaa
