/- Reading a stripe where there is a fault: the program; and all ways. -/
import Derived.Test.YtmdgmnaaopineaaStrT
namespace Go.Proofs.Ytmdgmnaaopineaa
open Go.ChangeShapes Go.WideShapes Go.ChangeAt Go.RowKit
set_option linter.unusedVariables false
theorem manyF_bad {l : List UInt8} {p m : Nat} {f : Flt} (h : f.1 ≠ 0) : manyF l p f m = (0, p, f) := by
  have hm : mostF l p f m = (0, p, f) := by
    unfold mostF
    rw [vrdF_bad h, if_neg (by simp only; omega)]
  unfold manyF
  rw [hm, if_pos rfl]
  unfold failF
  rw [if_neg h]
theorem failF_stay {f : Flt} {c a : Int} (h : f.1 ≠ 0) : failF f c a = f := if_neg h
section
variable {w : World} {D : Dom} {g : Nat} {l : List UInt8} {p : Nat} {f : Flt}
set_option maxRecDepth 100000 in
set_option maxHeartbeats 2000000 in
theorem strRead_over (h : Rd w D g l p f) (hf : OkF f) (hl : l.length ≤ 1000000000) (fr : Nat) (hfr : fr ≤ 18446744073709551615) (hbig : 4611686018427387904 < fr) :
    Calls Try.prog 41 #[.pointer (some ⟨g, 0, none⟩), .int .u64 (fr : Int)] w (StrIs w D g l ((0, 0, []), p, failF f 3 p)) := by
  have HS4 : Hid ((Try.prog.info? 31).map (·.size) = some 3) := by unfold Hid; kernel_rfl
  obtain ⟨F', hFe⟩ : ∃ F', F' = failF f 3 p := ⟨_, rfl⟩
  obtain ⟨Q', hQe⟩ : ∃ Q', Q' = p := ⟨_, rfl⟩
  have hF' : F'.1 ≠ 0 := by rw [hFe]; exact failF_bad (by decide)
  have HQF : Hid (p = Q' ∧ failF f 3 p = F') := ⟨hQe.symm, hFe.symm⟩
  have HFL : Hid (∀ w, Rd w D g l p f → Calls Try.prog 91 #[.pointer (some ⟨g, 0, none⟩), .int .i64 3, .int .i64 (p : Int)] w fun e w' => e = .returned (.tuple #[]) ∧ Rd w' D g l Q' F' ∧ Chg (one g) w w') := fun w h => by rw [hQe, hFe]; exact cfail_at h 3 p
  have HFL2 : Hid (∀ w, Rd w D g l Q' F' → Calls Try.prog 91 #[.pointer (some ⟨g, 0, none⟩), .int .i64 3, .int .i64 (p : Int)] w fun e w' => e = .returned (.tuple #[]) ∧ Rd w' D g l Q' F' ∧ Chg (one g) w w') := fun w h => by have := cfail_at h 3 p; rwa [failF_stay hF'] at this
  have HV : Hid (∀ w, Rd w D g l Q' F' → Calls Try.prog 92 #[.pointer (some ⟨g, 0, none⟩)] w fun e w' => e = .returned (.int .u64 0) ∧ Rd w' D g l Q' F' ∧ Chg (one g) w w') := fun w h => by have := vread_any h (.inr hF') hl; rwa [vrdF_bad hF'] at this
  have dd0 : decide ((4611686018427387904 : Int) < (fr : Int)) = true := by simp; omega
  have dd1 : (if (4611686018427387904 : Int) < (fr : Int) then (4611686018427387904 : Int) else (fr : Int)) = 4611686018427387904 := if_pos (by omega)
  have dd1' : (if (fr : Int) < (4611686018427387904 : Int) then (fr : Int) else (4611686018427387904 : Int)) = 4611686018427387904 := if_neg (by omega)
  clear hQe hFe
  have hfb : (F'.1 == 0) = false := by simpa using hF'
  have HFB := Lib.hid hF'
  have HM : Hid (∀ w, Rd w D g l Q' F' → Calls Try.prog 93 #[.pointer (some ⟨g, 0, none⟩), .int .i64 8] w fun e w' => e = .returned (.int .i64 0) ∧ Rd w' D g l Q' F' ∧ Chg (one g) w w') := fun w h => by
    have := many_at h (.inr hF') hl 8 (by decide)
    rw [manyF_bad hF'] at this
    exact this
  have hgl := h.lt
  have HRD := Lib.hid h
  have HDD := Lib.hid h.dom
  have HT0 := Lib.hid (Blk.new w 31 (stpV 0 0 none 0 0))
  have HC0 := Lib.hid (Chg.of_pure (below1 w (.cells (stpV 0 0 none 0 0) 31)) (one g))
  have HR0 := Lib.hid (HRD.out.below (below1 w (.cells (stpV 0 0 none 0 0) 31)))
  clear h hf hF'
  go_enter Try.func41, Try.ntmps41
  go_wp2_with fail
  go_step3
  go_wp2_with fail
  generalize World.alloc w _ = w0 at *
  have hz0 := HC0.out.size
  have hl0 := (show Blk w0 w.heap.size 31 (stpV 0 0 none 0 0) from HT0.out).lt
  refine (cat_at HR0.out).mono ?_; rintro e wx ⟨rfl, rfl⟩
  go_wp2_with fail
  refine (HFL.out _ HR0.out).mono ?_; rintro e wf ⟨rfl, hr, hc⟩
  have HRf := Lib.hid hr
  have HCf := Lib.hid (HC0.out.trans hc)
  have HTf := Lib.hid (chB (show Blk w0 w.heap.size 31 (stpV 0 0 none 0 0) from HT0.out) hc (fun e => by have e : w.heap.size = g := e; omega))
  have hlf := (show Blk wf w.heap.size 31 (stpV 0 0 none 0 0) from HTf.out).lt
  clear hr hc
  go_wp2_with fail
  have HKa := Lib.hid (blk11 wf 31 (stpV fr 0 none 0 0))
  have HTa := Lib.hid (keepB (show Blk wf w.heap.size 31 (stpV 0 0 none 0 0) from HTf.out) (below1 wf (.cells (stpV fr 0 none 0 0) 31)))
  have HRa := Lib.hid (HRf.out.below (below1 wf (.cells (stpV fr 0 none 0 0) 31)))
  have HCa := Lib.hid (HCf.out.trans (Chg.of_pure (below1 wf (.cells (stpV fr 0 none 0 0) 31)) (one g)))
  generalize hgs : wf.heap.size = gs at *
  generalize World.alloc wf _ = w1 at *
  have HG1 : Hid (¬ one g gs) := fun e => by have e : gs = g := e; omega
  have HG2 : Hid (¬ one g w.heap.size) := fun e => by have e : w.heap.size = g := e; omega
  have HD1 : Hid (¬ D gs) := fun e => by have := HDD.out gs e; omega
  have HD2 : Hid (¬ D w.heap.size) := fun e => by have := HDD.out _ e; omega
  refine (HV.out _ HRa.out).mono ?_; rintro e w2 ⟨rfl, hr, hc⟩
  have HK2 := Lib.hid (chB (show Blk w1 gs 31 (stpV fr 0 none 0 0) from HKa.out) hc HG1.out)
  have HT2 := Lib.hid (chB (show Blk w1 w.heap.size 31 (stpV 0 0 none 0 0) from HTa.out) hc HG2.out)
  have HR2 := Lib.hid hr
  have HC2 := Lib.hid (HCa.out.trans hc)
  clear hr hc
  go_wp2_with fail
  refine (HFL2.out _ HR2.out).mono ?_; rintro e w3 ⟨rfl, hr, hc⟩
  have HK3 := Lib.hid (chB (show Blk w2 gs 31 _ from HK2.out) hc HG1.out)
  have HT3 := Lib.hid (chB (show Blk w2 w.heap.size 31 _ from HT2.out) hc HG2.out)
  have HR3 := Lib.hid hr
  have HC3 := Lib.hid (HC2.out.trans hc)
  clear hr hc
  have k1 := (show Blk w3 gs 31 _ from HK3.out).cell 1
  have kf1 := (show Blk w3 gs 31 _ from HK3.out).frozen 1
  go_wp2_with fail
  clear k1 kf1
  generalize hW : World.setCell w3 _ _ = w4
  have HRb : Hid (Rd w4 D g l Q' F') := by rw [← hW]; exact rdPut HR3.out (a := ⟨gs, 1, none⟩) HG1.out HD1.out _
  have HTb : Hid (Blk w4 w.heap.size 31 (stpV 0 0 none 0 0)) := by rw [← hW]; exact (show Blk w3 w.heap.size 31 _ from HT3.out).far (p := ⟨gs, 1, none⟩) (by dsimp only; omega) _
  have HCb : Hid (Chg (one g) w w4) := by rw [← hW]; exact HC3.out.setCell (p := ⟨gs, 1, none⟩) (.inr (by dsimp only; omega)) _
  clear hW
  refine (HM.out _ HRb.out).mono ?_; rintro e w5 ⟨rfl, hr, hc⟩
  have HR5 := Lib.hid hr
  have HT5 := Lib.hid (chB (show Blk w4 w.heap.size 31 _ from HTb.out) hc HG2.out)
  have HC5 := Lib.hid (HCb.out.trans hc)
  clear hr hc
  go_wp2_with fail
  go_step3
  go_wp2_with fail
  go_loop [36] (fun i => i = .int .i64 0) (fun _ => 0)
  case atStart => rfl
  case round =>
    obtain rfl := hrel
    go_wp2_with fail
    refine (cgood_at HR5.out).mono ?_; rintro e w10 ⟨rfl, hb⟩
    have HTz := Lib.hid (keepB (show Blk w5 w.heap.size 31 _ from HT5.out) hb)
    have HRz := Lib.hid (HR5.out.below hb)
    have HCz := Lib.hid (HC5.out.trans (Chg.of_pure hb _))
    clear hb
    go_wp2_with (refine wpList_put_row rfl 31 (.tmp 4) (.tmp 54) rfl w.heap.size (stpV 0 0 none 0 0) rfl rfl 31 _ HTz.out HS4.out rfl (by simp [Value.oneCell']) ?_; intro w9 hblk hgr)
    try rw [Exit.noGoto_ret]
    have hq := HQF.out
    obtain ⟨hq1, hq2⟩ := hq
    refine bodyPost_ret (results_cell_row rfl _ _ w.heap.size 31 _ (0, 0) _ rfl hblk Try.underlying31 rfl HS4.out) rfl ⟨none, 0, 0, rfl, LL.nil _ _, ?_, chGrown HCz.out hgr (fun j hj => by injection hj with hj; omega)⟩
    rw [hq2, hq1]
    exact rdGrown HRz.out hgr (fun e => by injection e with e; omega) (fun j hj e => by injection e with e; subst e; exact HD2.out hj)
set_option maxRecDepth 100000 in
set_option maxHeartbeats 2000000 in
theorem strRead_great (h : Rd w D g l p f) (hf : OkF f) (hl : l.length ≤ 1000000000) (fr : Nat) (hfr : fr ≤ 18446744073709551615) (hle : fr ≤ 4611686018427387904) {x q : Nat} {F : Flt} (hv : vrdF l p f = (x, q, F)) (h0 : F.1 = 0) (hx : 4611686018427387904 ≤ fr + x) :
    Calls Try.prog 41 #[.pointer (some ⟨g, 0, none⟩), .int .u64 (fr : Int)] w (StrIs w D g l ((0, 0, []), q, failF F 3 p)) := by
  have HS4 : Hid ((Try.prog.info? 31).map (·.size) = some 3) := by unfold Hid; kernel_rfl
  obtain ⟨F', hFe⟩ : ∃ F', F' = failF F 3 p := ⟨_, rfl⟩
  obtain ⟨Q', hQe⟩ : ∃ Q', Q' = q := ⟨_, rfl⟩
  have hF' : F'.1 ≠ 0 := by rw [hFe]; exact failF_bad (by decide)
  have HQF : Hid (q = Q' ∧ failF F 3 p = F') := ⟨hQe.symm, hFe.symm⟩
  have HV : Hid (∀ w, Rd w D g l p f → Calls Try.prog 92 #[.pointer (some ⟨g, 0, none⟩)] w fun e w' => e = .returned (.int .u64 (x : Int)) ∧ Rd w' D g l q F ∧ Chg (one g) w w') := fun w h => by have := vread_any h hf hl; rwa [hv] at this
  have HFL2 : Hid (∀ w, Rd w D g l q F → Calls Try.prog 91 #[.pointer (some ⟨g, 0, none⟩), .int .i64 3, .int .i64 (p : Int)] w fun e w' => e = .returned (.tuple #[]) ∧ Rd w' D g l Q' F' ∧ Chg (one g) w w') := fun w h => by rw [hQe, hFe]; exact cfail_at h 3 p
  have dd0 : decide ((4611686018427387904 : Int) < (fr : Int)) = false := by simp; omega
  have dd1 : (if (4611686018427387904 : Int) < (fr : Int) then (4611686018427387904 : Int) else (fr : Int)) = (fr : Int) := if_neg (by omega)
  have dd1' : (if (fr : Int) < (4611686018427387904 : Int) then (fr : Int) else (4611686018427387904 : Int)) = (fr : Int) := by split <;> omega
  have dd3 : IntKind.u64.wrap ((4611686018427387904 : Int) - (fr : Int)) = (4611686018427387904 : Int) - (fr : Int) := IntWalk.u64_in _ (by omega)
  have dd2 : decide ((4611686018427387904 : Int) - (fr : Int) ≤ (x : Int)) = true := by simp; omega
  clear hQe hFe hv h0
  have hfb : (F'.1 == 0) = false := by simpa using hF'
  have HFB := Lib.hid hF'
  have HM : Hid (∀ w, Rd w D g l Q' F' → Calls Try.prog 93 #[.pointer (some ⟨g, 0, none⟩), .int .i64 8] w fun e w' => e = .returned (.int .i64 0) ∧ Rd w' D g l Q' F' ∧ Chg (one g) w w') := fun w h => by
    have := many_at h (.inr hF') hl 8 (by decide)
    rw [manyF_bad hF'] at this
    exact this
  have hgl := h.lt
  have HRD := Lib.hid h
  have HDD := Lib.hid h.dom
  have HT0 := Lib.hid (Blk.new w 31 (stpV 0 0 none 0 0))
  have HC0 := Lib.hid (Chg.of_pure (below1 w (.cells (stpV 0 0 none 0 0) 31)) (one g))
  have HR0 := Lib.hid (HRD.out.below (below1 w (.cells (stpV 0 0 none 0 0) 31)))
  clear h hf hF'
  go_enter Try.func41, Try.ntmps41
  go_wp2_with fail
  go_step3
  go_wp2_with fail
  generalize World.alloc w _ = w0 at *
  have hz0 := HC0.out.size
  have hl0 := (show Blk w0 w.heap.size 31 (stpV 0 0 none 0 0) from HT0.out).lt
  refine (cat_at HR0.out).mono ?_; rintro e wx ⟨rfl, rfl⟩
  go_wp2_with fail
  have HKa := Lib.hid (blk11 w0 31 (stpV fr 0 none 0 0))
  have HTa := Lib.hid (keepB (show Blk w0 w.heap.size 31 (stpV 0 0 none 0 0) from HT0.out) (below1 w0 (.cells (stpV fr 0 none 0 0) 31)))
  have HRa := Lib.hid (HR0.out.below (below1 w0 (.cells (stpV fr 0 none 0 0) 31)))
  have HCa := Lib.hid (HC0.out.trans (Chg.of_pure (below1 w0 (.cells (stpV fr 0 none 0 0) 31)) (one g)))
  generalize hgs : w0.heap.size = gs at *
  generalize World.alloc w0 _ = w1 at *
  have HG1 : Hid (¬ one g gs) := fun e => by have e : gs = g := e; omega
  have HG2 : Hid (¬ one g w.heap.size) := fun e => by have e : w.heap.size = g := e; omega
  have HD1 : Hid (¬ D gs) := fun e => by have := HDD.out gs e; omega
  have HD2 : Hid (¬ D w.heap.size) := fun e => by have := HDD.out _ e; omega
  refine (HV.out _ HRa.out).mono ?_; rintro e w2 ⟨rfl, hr, hc⟩
  have HK2 := Lib.hid (chB (show Blk w1 gs 31 (stpV fr 0 none 0 0) from HKa.out) hc HG1.out)
  have HT2 := Lib.hid (chB (show Blk w1 w.heap.size 31 (stpV 0 0 none 0 0) from HTa.out) hc HG2.out)
  have HR2 := Lib.hid hr
  have HC2 := Lib.hid (HCa.out.trans hc)
  clear hr hc
  go_wp2_with fail
  refine (HFL2.out _ HR2.out).mono ?_; rintro e w3 ⟨rfl, hr, hc⟩
  have HK3 := Lib.hid (chB (show Blk w2 gs 31 _ from HK2.out) hc HG1.out)
  have HT3 := Lib.hid (chB (show Blk w2 w.heap.size 31 _ from HT2.out) hc HG2.out)
  have HR3 := Lib.hid hr
  have HC3 := Lib.hid (HC2.out.trans hc)
  clear hr hc
  have k1 := (show Blk w3 gs 31 _ from HK3.out).cell 1
  have kf1 := (show Blk w3 gs 31 _ from HK3.out).frozen 1
  go_wp2_with fail
  clear k1 kf1
  generalize hW : World.setCell w3 _ _ = w4
  have HRb : Hid (Rd w4 D g l Q' F') := by rw [← hW]; exact rdPut HR3.out (a := ⟨gs, 1, none⟩) HG1.out HD1.out _
  have HTb : Hid (Blk w4 w.heap.size 31 (stpV 0 0 none 0 0)) := by rw [← hW]; exact (show Blk w3 w.heap.size 31 _ from HT3.out).far (p := ⟨gs, 1, none⟩) (by dsimp only; omega) _
  have HCb : Hid (Chg (one g) w w4) := by rw [← hW]; exact HC3.out.setCell (p := ⟨gs, 1, none⟩) (.inr (by dsimp only; omega)) _
  clear hW
  refine (HM.out _ HRb.out).mono ?_; rintro e w5 ⟨rfl, hr, hc⟩
  have HR5 := Lib.hid hr
  have HT5 := Lib.hid (chB (show Blk w4 w.heap.size 31 _ from HTb.out) hc HG2.out)
  have HC5 := Lib.hid (HCb.out.trans hc)
  clear hr hc
  go_wp2_with fail
  go_step3
  go_wp2_with fail
  go_loop [36] (fun i => i = .int .i64 0) (fun _ => 0)
  case atStart => rfl
  case round =>
    obtain rfl := hrel
    go_wp2_with fail
    refine (cgood_at HR5.out).mono ?_; rintro e w10 ⟨rfl, hb⟩
    have HTz := Lib.hid (keepB (show Blk w5 w.heap.size 31 _ from HT5.out) hb)
    have HRz := Lib.hid (HR5.out.below hb)
    have HCz := Lib.hid (HC5.out.trans (Chg.of_pure hb _))
    clear hb
    go_wp2_with (refine wpList_put_row rfl 31 (.tmp 4) (.tmp 54) rfl w.heap.size (stpV 0 0 none 0 0) rfl rfl 31 _ HTz.out HS4.out rfl (by simp [Value.oneCell']) ?_; intro w9 hblk hgr)
    try rw [Exit.noGoto_ret]
    have hq := HQF.out
    obtain ⟨hq1, hq2⟩ := hq
    refine bodyPost_ret (results_cell_row rfl _ _ w.heap.size 31 _ (0, 0) _ rfl hblk Try.underlying31 rfl HS4.out) rfl ⟨none, 0, 0, rfl, LL.nil _ _, ?_, chGrown HCz.out hgr (fun j hj => by injection hj with hj; omega)⟩
    rw [hq2, hq1]
    exact rdGrown HRz.out hgr (fun e => by injection e with e; omega) (fun j hj e => by injection e with e; subst e; exact HD2.out hj)
set_option maxRecDepth 100000 in
set_option maxHeartbeats 2000000 in
theorem strRead_bad1 (h : Rd w D g l p f) (hf : OkF f) (hl : l.length ≤ 1000000000) (fr : Nat) (hfr : fr ≤ 18446744073709551615) (hle : 4611686018427387904 ≤ fr) (hle2 : fr ≤ 4611686018427387904) {q : Nat} {F : Flt} (hv : vrdF l p f = (0, q, F)) (h0 : F.1 ≠ 0) :
    Calls Try.prog 41 #[.pointer (some ⟨g, 0, none⟩), .int .u64 (fr : Int)] w (StrIs w D g l ((0, 0, []), q, F)) := by
  have HS4 : Hid ((Try.prog.info? 31).map (·.size) = some 3) := by unfold Hid; kernel_rfl
  obtain ⟨F', hFe⟩ : ∃ F', F' = F := ⟨_, rfl⟩
  obtain ⟨Q', hQe⟩ : ∃ Q', Q' = q := ⟨_, rfl⟩
  have hF' : F'.1 ≠ 0 := by rw [hFe]; exact h0
  have HQF : Hid (q = Q' ∧ F = F') := ⟨hQe.symm, hFe.symm⟩
  have HV : Hid (∀ w, Rd w D g l p f → Calls Try.prog 92 #[.pointer (some ⟨g, 0, none⟩)] w fun e w' => e = .returned (.int .u64 0) ∧ Rd w' D g l Q' F' ∧ Chg (one g) w w') := fun w h => by have := vread_any h hf hl; rw [hv] at this; rw [hQe, hFe]; exact this
  have HFL2 : Hid (∀ w, Rd w D g l Q' F' → Calls Try.prog 91 #[.pointer (some ⟨g, 0, none⟩), .int .i64 3, .int .i64 (p : Int)] w fun e w' => e = .returned (.tuple #[]) ∧ Rd w' D g l Q' F' ∧ Chg (one g) w w') := fun w h => by have := cfail_at h 3 p; rwa [failF_stay hF'] at this
  have dd0 : decide ((4611686018427387904 : Int) < (fr : Int)) = false := by simp; omega
  have dd1 : (if (4611686018427387904 : Int) < (fr : Int) then (4611686018427387904 : Int) else (fr : Int)) = (fr : Int) := if_neg (by omega)
  have dd1' : (if (fr : Int) < (4611686018427387904 : Int) then (fr : Int) else (4611686018427387904 : Int)) = (fr : Int) := by split <;> omega
  have dd3 : IntKind.u64.wrap ((4611686018427387904 : Int) - (fr : Int)) = (4611686018427387904 : Int) - (fr : Int) := IntWalk.u64_in _ (by omega)
  have dd2 : decide ((4611686018427387904 : Int) - (fr : Int) ≤ 0) = true := by simp; omega
  clear hQe hFe hv h0
  have hfb : (F'.1 == 0) = false := by simpa using hF'
  have HFB := Lib.hid hF'
  have HM : Hid (∀ w, Rd w D g l Q' F' → Calls Try.prog 93 #[.pointer (some ⟨g, 0, none⟩), .int .i64 8] w fun e w' => e = .returned (.int .i64 0) ∧ Rd w' D g l Q' F' ∧ Chg (one g) w w') := fun w h => by
    have := many_at h (.inr hF') hl 8 (by decide)
    rw [manyF_bad hF'] at this
    exact this
  have hgl := h.lt
  have HRD := Lib.hid h
  have HDD := Lib.hid h.dom
  have HT0 := Lib.hid (Blk.new w 31 (stpV 0 0 none 0 0))
  have HC0 := Lib.hid (Chg.of_pure (below1 w (.cells (stpV 0 0 none 0 0) 31)) (one g))
  have HR0 := Lib.hid (HRD.out.below (below1 w (.cells (stpV 0 0 none 0 0) 31)))
  clear h hf hF'
  go_enter Try.func41, Try.ntmps41
  go_wp2_with fail
  go_step3
  go_wp2_with fail
  generalize World.alloc w _ = w0 at *
  have hz0 := HC0.out.size
  have hl0 := (show Blk w0 w.heap.size 31 (stpV 0 0 none 0 0) from HT0.out).lt
  refine (cat_at HR0.out).mono ?_; rintro e wx ⟨rfl, rfl⟩
  go_wp2_with fail
  have HKa := Lib.hid (blk11 w0 31 (stpV fr 0 none 0 0))
  have HTa := Lib.hid (keepB (show Blk w0 w.heap.size 31 (stpV 0 0 none 0 0) from HT0.out) (below1 w0 (.cells (stpV fr 0 none 0 0) 31)))
  have HRa := Lib.hid (HR0.out.below (below1 w0 (.cells (stpV fr 0 none 0 0) 31)))
  have HCa := Lib.hid (HC0.out.trans (Chg.of_pure (below1 w0 (.cells (stpV fr 0 none 0 0) 31)) (one g)))
  generalize hgs : w0.heap.size = gs at *
  generalize World.alloc w0 _ = w1 at *
  have HG1 : Hid (¬ one g gs) := fun e => by have e : gs = g := e; omega
  have HG2 : Hid (¬ one g w.heap.size) := fun e => by have e : w.heap.size = g := e; omega
  have HD1 : Hid (¬ D gs) := fun e => by have := HDD.out gs e; omega
  have HD2 : Hid (¬ D w.heap.size) := fun e => by have := HDD.out _ e; omega
  refine (HV.out _ HRa.out).mono ?_; rintro e w2 ⟨rfl, hr, hc⟩
  have HK2 := Lib.hid (chB (show Blk w1 gs 31 (stpV fr 0 none 0 0) from HKa.out) hc HG1.out)
  have HT2 := Lib.hid (chB (show Blk w1 w.heap.size 31 (stpV 0 0 none 0 0) from HTa.out) hc HG2.out)
  have HR2 := Lib.hid hr
  have HC2 := Lib.hid (HCa.out.trans hc)
  clear hr hc
  go_wp2_with fail
  refine (HFL2.out _ HR2.out).mono ?_; rintro e w3 ⟨rfl, hr, hc⟩
  have HK3 := Lib.hid (chB (show Blk w2 gs 31 _ from HK2.out) hc HG1.out)
  have HT3 := Lib.hid (chB (show Blk w2 w.heap.size 31 _ from HT2.out) hc HG2.out)
  have HR3 := Lib.hid hr
  have HC3 := Lib.hid (HC2.out.trans hc)
  clear hr hc
  have k1 := (show Blk w3 gs 31 _ from HK3.out).cell 1
  have kf1 := (show Blk w3 gs 31 _ from HK3.out).frozen 1
  go_wp2_with fail
  clear k1 kf1
  generalize hW : World.setCell w3 _ _ = w4
  have HRb : Hid (Rd w4 D g l Q' F') := by rw [← hW]; exact rdPut HR3.out (a := ⟨gs, 1, none⟩) HG1.out HD1.out _
  have HTb : Hid (Blk w4 w.heap.size 31 (stpV 0 0 none 0 0)) := by rw [← hW]; exact (show Blk w3 w.heap.size 31 _ from HT3.out).far (p := ⟨gs, 1, none⟩) (by dsimp only; omega) _
  have HCb : Hid (Chg (one g) w w4) := by rw [← hW]; exact HC3.out.setCell (p := ⟨gs, 1, none⟩) (.inr (by dsimp only; omega)) _
  clear hW
  refine (HM.out _ HRb.out).mono ?_; rintro e w5 ⟨rfl, hr, hc⟩
  have HR5 := Lib.hid hr
  have HT5 := Lib.hid (chB (show Blk w4 w.heap.size 31 _ from HTb.out) hc HG2.out)
  have HC5 := Lib.hid (HCb.out.trans hc)
  clear hr hc
  go_wp2_with fail
  go_step3
  go_wp2_with fail
  go_loop [36] (fun i => i = .int .i64 0) (fun _ => 0)
  case atStart => rfl
  case round =>
    obtain rfl := hrel
    go_wp2_with fail
    refine (cgood_at HR5.out).mono ?_; rintro e w10 ⟨rfl, hb⟩
    have HTz := Lib.hid (keepB (show Blk w5 w.heap.size 31 _ from HT5.out) hb)
    have HRz := Lib.hid (HR5.out.below hb)
    have HCz := Lib.hid (HC5.out.trans (Chg.of_pure hb _))
    clear hb
    go_wp2_with (refine wpList_put_row rfl 31 (.tmp 4) (.tmp 54) rfl w.heap.size (stpV 0 0 none 0 0) rfl rfl 31 _ HTz.out HS4.out rfl (by simp [Value.oneCell']) ?_; intro w9 hblk hgr)
    try rw [Exit.noGoto_ret]
    have hq := HQF.out
    obtain ⟨hq1, hq2⟩ := hq
    refine bodyPost_ret (results_cell_row rfl _ _ w.heap.size 31 _ (0, 0) _ rfl hblk Try.underlying31 rfl HS4.out) rfl ⟨none, 0, 0, rfl, LL.nil _ _, ?_, chGrown HCz.out hgr (fun j hj => by injection hj with hj; omega)⟩
    rw [hq2, hq1]
    exact rdGrown HRz.out hgr (fun e => by injection e with e; omega) (fun j hj e => by injection e with e; subst e; exact HD2.out hj)
set_option maxRecDepth 100000 in
set_option maxHeartbeats 2000000 in
theorem strRead_bad2 (h : Rd w D g l p f) (hf : OkF f) (hl : l.length ≤ 1000000000) (fr : Nat) (hfr : fr ≤ 18446744073709551615) (hle : fr < 4611686018427387904) {q : Nat} {F : Flt} (hv : vrdF l p f = (0, q, F)) (h0 : F.1 ≠ 0) :
    Calls Try.prog 41 #[.pointer (some ⟨g, 0, none⟩), .int .u64 (fr : Int)] w (StrIs w D g l ((0, 0, []), q, F)) := by
  have HS4 : Hid ((Try.prog.info? 31).map (·.size) = some 3) := by unfold Hid; kernel_rfl
  obtain ⟨F', hFe⟩ : ∃ F', F' = F := ⟨_, rfl⟩
  obtain ⟨Q', hQe⟩ : ∃ Q', Q' = q := ⟨_, rfl⟩
  have hF' : F'.1 ≠ 0 := by rw [hFe]; exact h0
  have HQF : Hid (q = Q' ∧ F = F') := ⟨hQe.symm, hFe.symm⟩
  have HV : Hid (∀ w, Rd w D g l p f → Calls Try.prog 92 #[.pointer (some ⟨g, 0, none⟩)] w fun e w' => e = .returned (.int .u64 0) ∧ Rd w' D g l Q' F' ∧ Chg (one g) w w') := fun w h => by have := vread_any h hf hl; rw [hv] at this; rw [hQe, hFe]; exact this
  have HFL2 : Hid (∀ w, Rd w D g l Q' F' → Calls Try.prog 91 #[.pointer (some ⟨g, 0, none⟩), .int .i64 3, .int .i64 (p : Int)] w fun e w' => e = .returned (.tuple #[]) ∧ Rd w' D g l Q' F' ∧ Chg (one g) w w') := fun w h => by have := cfail_at h 3 p; rwa [failF_stay hF'] at this
  have dd0 : decide ((4611686018427387904 : Int) < (fr : Int)) = false := by simp; omega
  have dd1 : (if (4611686018427387904 : Int) < (fr : Int) then (4611686018427387904 : Int) else (fr : Int)) = (fr : Int) := if_neg (by omega)
  have dd1' : (if (fr : Int) < (4611686018427387904 : Int) then (fr : Int) else (4611686018427387904 : Int)) = (fr : Int) := by split <;> omega
  have dd3 : IntKind.u64.wrap ((4611686018427387904 : Int) - (fr : Int)) = (4611686018427387904 : Int) - (fr : Int) := IntWalk.u64_in _ (by omega)
  have dd2 : decide ((4611686018427387904 : Int) - (fr : Int) ≤ 0) = false := by simp; omega
  clear hQe hFe hv h0
  have hfb : (F'.1 == 0) = false := by simpa using hF'
  have HFB := Lib.hid hF'
  have HM : Hid (∀ w, Rd w D g l Q' F' → Calls Try.prog 93 #[.pointer (some ⟨g, 0, none⟩), .int .i64 8] w fun e w' => e = .returned (.int .i64 0) ∧ Rd w' D g l Q' F' ∧ Chg (one g) w w') := fun w h => by
    have := many_at h (.inr hF') hl 8 (by decide)
    rw [manyF_bad hF'] at this
    exact this
  have hgl := h.lt
  have HRD := Lib.hid h
  have HDD := Lib.hid h.dom
  have HT0 := Lib.hid (Blk.new w 31 (stpV 0 0 none 0 0))
  have HC0 := Lib.hid (Chg.of_pure (below1 w (.cells (stpV 0 0 none 0 0) 31)) (one g))
  have HR0 := Lib.hid (HRD.out.below (below1 w (.cells (stpV 0 0 none 0 0) 31)))
  clear h hf hF'
  go_enter Try.func41, Try.ntmps41
  go_wp2_with fail
  go_step3
  go_wp2_with fail
  generalize World.alloc w _ = w0 at *
  have hz0 := HC0.out.size
  have hl0 := (show Blk w0 w.heap.size 31 (stpV 0 0 none 0 0) from HT0.out).lt
  refine (cat_at HR0.out).mono ?_; rintro e wx ⟨rfl, rfl⟩
  go_wp2_with fail
  have HKa := Lib.hid (blk11 w0 31 (stpV fr 0 none 0 0))
  have HTa := Lib.hid (keepB (show Blk w0 w.heap.size 31 (stpV 0 0 none 0 0) from HT0.out) (below1 w0 (.cells (stpV fr 0 none 0 0) 31)))
  have HRa := Lib.hid (HR0.out.below (below1 w0 (.cells (stpV fr 0 none 0 0) 31)))
  have HCa := Lib.hid (HC0.out.trans (Chg.of_pure (below1 w0 (.cells (stpV fr 0 none 0 0) 31)) (one g)))
  generalize hgs : w0.heap.size = gs at *
  generalize World.alloc w0 _ = w1 at *
  have HG1 : Hid (¬ one g gs) := fun e => by have e : gs = g := e; omega
  have HG2 : Hid (¬ one g w.heap.size) := fun e => by have e : w.heap.size = g := e; omega
  have HD1 : Hid (¬ D gs) := fun e => by have := HDD.out gs e; omega
  have HD2 : Hid (¬ D w.heap.size) := fun e => by have := HDD.out _ e; omega
  refine (HV.out _ HRa.out).mono ?_; rintro e w2 ⟨rfl, hr, hc⟩
  have HK2 := Lib.hid (chB (show Blk w1 gs 31 (stpV fr 0 none 0 0) from HKa.out) hc HG1.out)
  have HT2 := Lib.hid (chB (show Blk w1 w.heap.size 31 (stpV 0 0 none 0 0) from HTa.out) hc HG2.out)
  have HR2 := Lib.hid hr
  have HC2 := Lib.hid (HCa.out.trans hc)
  clear hr hc
  have k1 := (show Blk w2 gs 31 _ from HK2.out).cell 1
  have kf1 := (show Blk w2 gs 31 _ from HK2.out).frozen 1
  go_wp2_with fail
  clear k1 kf1
  generalize hW : World.setCell w2 _ _ = w4
  have HRb : Hid (Rd w4 D g l Q' F') := by rw [← hW]; exact rdPut HR2.out (a := ⟨gs, 1, none⟩) HG1.out HD1.out _
  have HTb : Hid (Blk w4 w.heap.size 31 (stpV 0 0 none 0 0)) := by rw [← hW]; exact (show Blk w2 w.heap.size 31 _ from HT2.out).far (p := ⟨gs, 1, none⟩) (by dsimp only; omega) _
  have HCb : Hid (Chg (one g) w w4) := by rw [← hW]; exact HC2.out.setCell (p := ⟨gs, 1, none⟩) (.inr (by dsimp only; omega)) _
  clear hW
  refine (HM.out _ HRb.out).mono ?_; rintro e w5 ⟨rfl, hr, hc⟩
  have HR5 := Lib.hid hr
  have HT5 := Lib.hid (chB (show Blk w4 w.heap.size 31 _ from HTb.out) hc HG2.out)
  have HC5 := Lib.hid (HCb.out.trans hc)
  clear hr hc
  go_wp2_with fail
  go_step3
  go_wp2_with fail
  go_loop [36] (fun i => i = .int .i64 0) (fun _ => 0)
  case atStart => rfl
  case round =>
    obtain rfl := hrel
    go_wp2_with fail
    refine (cgood_at HR5.out).mono ?_; rintro e w10 ⟨rfl, hb⟩
    have HTz := Lib.hid (keepB (show Blk w5 w.heap.size 31 _ from HT5.out) hb)
    have HRz := Lib.hid (HR5.out.below hb)
    have HCz := Lib.hid (HC5.out.trans (Chg.of_pure hb _))
    clear hb
    go_wp2_with (refine wpList_put_row rfl 31 (.tmp 4) (.tmp 54) rfl w.heap.size (stpV 0 0 none 0 0) rfl rfl 31 _ HTz.out HS4.out rfl (by simp [Value.oneCell']) ?_; intro w9 hblk hgr)
    try rw [Exit.noGoto_ret]
    have hq := HQF.out
    obtain ⟨hq1, hq2⟩ := hq
    refine bodyPost_ret (results_cell_row rfl _ _ w.heap.size 31 _ (0, 0) _ rfl hblk Try.underlying31 rfl HS4.out) rfl ⟨none, 0, 0, rfl, LL.nil _ _, ?_, chGrown HCz.out hgr (fun j hj => by injection hj with hj; omega)⟩
    rw [hq2, hq1]
    exact rdGrown HRz.out hgr (fun e => by injection e with e; omega) (fun j hj e => by injection e with e; subst e; exact HD2.out hj)
theorem strRead_any (h : Rd w D g l p f) (hf : OkF f) (hl : l.length ≤ 1000000000) (fr : Nat) (hfr : fr ≤ 18446744073709551615) :
    Calls Try.prog 41 #[.pointer (some ⟨g, 0, none⟩), .int .u64 (fr : Int)] w (StrIs w D g l (strF l p f fr)) := by
  by_cases h1 : 4611686018427387904 < fr
  · have e : strF l p f fr = ((0, 0, []), p, failF f 3 p) := by unfold strF; rw [if_pos h1]
    rw [e]
    exact strRead_over h hf hl fr hfr h1
  rcases hv : vrdF l p f with ⟨x, q, F⟩
  by_cases h0 : F.1 = 0
  · by_cases hx : 4611686018427387904 ≤ fr + x
    · have e : strF l p f fr = ((0, 0, []), q, failF F 3 p) := by
        unfold strF
        rw [if_neg h1, hv, if_pos ⟨h0, by show 4611686018427387904 - fr ≤ x; omega⟩]
      rw [e]
      exact strRead_great h hf hl fr hfr (by omega) hv h0 hx
    · exact strRead_good h hf hl fr (by omega) hv h0 (by omega)
  · have hx0 : x = 0 := by have := vrdF_fail0 (l := l) (p := p) (f := f) (by rw [hv]; exact h0); rwa [hv] at this
    subst hx0
    have e : strF l p f fr = ((0, 0, []), q, F) := by
      unfold strF
      rw [if_neg h1, hv, if_neg (by rintro ⟨hh, _⟩; exact h0 hh)]
      simp only
      rw [manyF_bad h0]
      exact if_neg h0
    rw [e]
    rcases Nat.lt_or_ge fr 4611686018427387904 with hh | hh
    · exact strRead_bad2 h hf hl fr hfr hh hv h0
    · exact strRead_bad1 h hf hl fr hfr hh (by omega) hv h0
end
end Go.Proofs.Ytmdgmnaaopineaa
