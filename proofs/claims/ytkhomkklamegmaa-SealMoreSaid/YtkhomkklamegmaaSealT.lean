/- Seals: read by the reference; got, Get, Decode. -/
import Derived.Test.YtkhomkklamegmaaSealR
namespace Go.Proofs.Ytkhomkklamegmaa
open Go.ChangeShapes Go.WideShapes Go.ChangeAt Go.RowKit
set_option linter.unusedVariables false
theorem cbelow_three (w : World) (o o' o'' : Obj) : Below w.heap.size w (((w.alloc o).alloc o').alloc o'') :=
  (((Below.refl _ w).alloc (Nat.le_refl _) _).alloc (by simp) _).alloc (by simp; omega) _
section
variable {D : Dom} {A : Option Addr} {n c : Nat} {l : List UInt8} {p : Nat} {f : Flt} {w : World}
set_option maxRecDepth 100000 in
set_option maxHeartbeats 2000000 in
theorem rsread_any (h : rpU8.sl w D A n c l) (hD : ∀ k, D k → k < w.heap.size) (hf : OkF f) (hp : p ≤ n) (hn : n ≤ 1000000000) :
    Calls Try.prog 18 #[.agg (rdV A n c p f)] w fun e w' => e = .returned (.tuple #[.agg (rdV A n c (sealF l p f).2.1 (sealF l p f).2.2), .agg (sV (sealF l p f).1)]) ∧ Below w.heap.size w w' := by
  have H : Hid ((Try.prog.info? 45).map (·.size) = some 4) := by unfold Hid; kernel_rfl
  have H3 : Hid ((Try.prog.info? 24).map (·.size) = some 3) := by unfold Hid; kernel_rfl
  obtain ⟨hlen, _, _⟩ := Rp.sl_len h
  have hq1 : (sealR1 l p f).2.1 ≤ n := by
    have := (vrdF_le (l := l) (p := p) (f := f) (by omega)).1
    unfold sealR1; rw [mustF_q]; omega
  have hq2 : (sealR2 l p f).2.1 ≤ n := by
    have := (vrdF_le (l := l) (p := (sealR1 l p f).2.1) (f := (sealR1 l p f).2.2) (by omega)).1
    unfold sealR2; rw [mostF_q]; omega
  have HS : ∀ w', Below w.heap.size w w' → rpU8.sl w' D A n c l ∧ (∀ k, D k → k < w'.heap.size) := fun w' hb => ⟨Rp.sl_below h hb hD, fun k hk => Nat.lt_of_lt_of_le (hD k hk) hb.size⟩
  have HE1 : Hid (∀ w', Below w.heap.size w w' → Calls Try.prog 34 #[.agg (rdV A n c p f), .int .i64 1] w' fun e w'' => e = .returned (rnV A n c (sealR1 l p f)) ∧ Below w'.heap.size w' w'') := fun w' hb => repoch_any (HS w' hb).1 (HS w' hb).2 hf hp hn
  have HE2 : Hid (∀ w', Below w.heap.size w w' → Calls Try.prog 35 #[.agg (rdV A n c (sealR1 l p f).2.1 (sealR1 l p f).2.2), .int .u64 4294967295] w' fun e w'' => e = .returned (rnV A n c (sealR2 l p f)) ∧ Below w'.heap.size w' w'') := fun w' hb => rmost_any (HS w' hb).1 (HS w' hb).2 (mustF_ok hf) hq1 hn 4294967295
  have HE3 : Hid (∀ w', Below w.heap.size w w' → Calls Try.prog 34 #[.agg (rdV A n c (sealR2 l p f).2.1 (sealR2 l p f).2.2), .int .i64 3] w' fun e w'' => e = .returned (rnV A n c (sealR3 l p f)) ∧ Below w'.heap.size w' w'') := fun w' hb => rtail_any (HS w' hb).1 (HS w' hb).2 (mostF_ok _ (mustF_ok hf)) hq2 hn
  unfold sealF
  clear HS hq1 hq2 hf hp hn hlen h hD
  generalize sealR1 l p f = r1 at *
  generalize sealR2 l p f = r2 at *
  generalize sealR3 l p f = r3 at *
  obtain ⟨x1, q1, f1⟩ := r1
  obtain ⟨x2, q2, f2⟩ := r2
  obtain ⟨x3, q3, f3⟩ := r3
  simp only at HE1 HE2 HE3 ⊢
  have hz := cbelow_three w (.cells (rdV A n c p f) 45) (.cells rdZ 45) (.cells (sV (0, 0, 0)) 24)
  have HB0 := Lib.hid hz
  have HA0 := Lib.hid (((Blk.new w 45 (rdV A n c p f)).alloc (.cells rdZ 45)).alloc (.cells (sV (0, 0, 0)) 24))
  have HR0 := Lib.hid ((cblk_top w (rdV A n c p f) rdZ 45 45).alloc (.cells (sV (0, 0, 0)) 24))
  have HT0 : Hid (Blk (((w.alloc (.cells (rdV A n c p f) 45)).alloc (.cells rdZ 45)).alloc (.cells (sV (0, 0, 0)) 24)) (w.heap.size + 1 + 1) 24 (sV (0, 0, 0))) := by
    have := Blk.new ((w.alloc (.cells (rdV A n c p f) 45)).alloc (.cells rdZ 45)) 24 (sV (0, 0, 0))
    have e : ((w.alloc (.cells (rdV A n c p f) 45)).alloc (.cells rdZ 45)).heap.size = w.heap.size + 1 + 1 := by simp
    rw [e] at this
    exact this
  clear hz
  by_cases h0 : f3.1 = 0
  case pos =>
    have hg : (f3.1 != 0) = false := by simpa using h0
    have hg' : (f3.1 == 0) = true := by simpa using h0
    rw [if_pos h0]
    clear h0
    go_enter Try.func18, Try.ntmps18
    go_wp2_with fail
    generalize World.alloc (World.alloc (World.alloc _ _) _) _ = w0 at *
    refine (HE1.out _ HB0.out).mono ?_; rintro e w1 ⟨rfl, hb⟩
    have hk := Blk.below (show Blk w0 _ _ _ from HA0.out) hb (show Blk w0 _ _ _ from HA0.out).lt
    have HX := Lib.hid hk
    have HRx := Lib.hid (Blk.below (show Blk w0 _ _ _ from HR0.out) hb (show Blk w0 _ _ _ from HR0.out).lt)
    have HTx := Lib.hid (Blk.below (show Blk w0 _ _ _ from HT0.out) hb (show Blk w0 _ _ _ from HT0.out).lt)
    have HBx := Lib.hid (HB0.out.trans (hb.mono HB0.out.size))
    clear hb hk
    go_wp2_with (refine wpList_put_row rfl 45 (.tmp 1) (.tmp 10) rfl w.heap.size (rdV A n c q1 f1) rfl rfl 45 _ HX.out H.out rfl (by simp [Value.oneCell']) ?_; intro v1 hblk hgr; have g0 := hblk.cell 0; have g1 := hblk.cell 1; have g2 := hblk.cell 2; have g3 := hblk.cell 3; have HA1 := Lib.hid hblk; have HR1 := Lib.hid ((show Blk w1 _ _ _ from HRx.out).grown hgr (by simp)); have HT1 := Lib.hid ((show Blk w1 _ _ _ from HTx.out).grown hgr (by simp; omega)); have HB1 := Lib.hid (HBx.out.grown hgr HBx.out.size (fun k hk => by injection hk with hk; omega)); clear hblk hgr HX HRx HTx HBx)
    clear g0 g1 g2 g3
    refine (HE2.out _ HB1.out).mono ?_; rintro e w2 ⟨rfl, hb⟩
    have hk := Blk.below (show Blk v1 _ _ _ from HA1.out) hb (show Blk v1 _ _ _ from HA1.out).lt
    have HX := Lib.hid hk
    have HRx := Lib.hid (Blk.below (show Blk v1 _ _ _ from HR1.out) hb (show Blk v1 _ _ _ from HR1.out).lt)
    have HTx := Lib.hid (Blk.below (show Blk v1 _ _ _ from HT1.out) hb (show Blk v1 _ _ _ from HT1.out).lt)
    have HBx := Lib.hid (HB1.out.trans (hb.mono HB1.out.size))
    clear hb hk
    go_wp2_with (refine wpList_put_row rfl 45 (.tmp 1) (.tmp 15) rfl w.heap.size (rdV A n c q2 f2) rfl rfl 45 _ HX.out H.out rfl (by simp [Value.oneCell']) ?_; intro v2 hblk hgr; have g0 := hblk.cell 0; have g1 := hblk.cell 1; have g2 := hblk.cell 2; have g3 := hblk.cell 3; have HA2 := Lib.hid hblk; have HR2 := Lib.hid ((show Blk w2 _ _ _ from HRx.out).grown hgr (by simp)); have HT2 := Lib.hid ((show Blk w2 _ _ _ from HTx.out).grown hgr (by simp; omega)); have HB2 := Lib.hid (HBx.out.grown hgr HBx.out.size (fun k hk => by injection hk with hk; omega)); clear hblk hgr HX HRx HTx HBx)
    clear g0 g1 g2 g3
    refine (HE3.out _ HB2.out).mono ?_; rintro e w3 ⟨rfl, hb⟩
    have hk := Blk.below (show Blk v2 _ _ _ from HA2.out) hb (show Blk v2 _ _ _ from HA2.out).lt
    have HX := Lib.hid hk
    have HRx := Lib.hid (Blk.below (show Blk v2 _ _ _ from HR2.out) hb (show Blk v2 _ _ _ from HR2.out).lt)
    have HTx := Lib.hid (Blk.below (show Blk v2 _ _ _ from HT2.out) hb (show Blk v2 _ _ _ from HT2.out).lt)
    have HBx := Lib.hid (HB2.out.trans (hb.mono HB2.out.size))
    clear hb hk
    go_wp2_with (first | (refine wpList_put_row rfl 45 (.tmp 1) (.tmp 20) rfl w.heap.size (rdV A n c q3 f3) rfl rfl 45 _ HX.out H.out rfl (by simp [Value.oneCell']) ?_; intro v3 hblk hgr; have g0 := hblk.cell 0; have g1 := hblk.cell 1; have g2 := hblk.cell 2; have g3 := hblk.cell 3; have HA3 := Lib.hid hblk; have HR3 := Lib.hid ((show Blk w3 _ _ _ from HRx.out).grown hgr (by simp)); have HT3 := Lib.hid ((show Blk w3 _ _ _ from HTx.out).grown hgr (by simp; omega)); have HB3 := Lib.hid (HBx.out.grown hgr HBx.out.size (fun k hk => by injection hk with hk; omega)); clear hblk hgr HX HRx HTx HBx) | (refine wpList_put_row rfl 45 (.tmp 2) (.tmp 28) rfl (w.heap.size + 1) (rdV A n c q3 f3) rfl rfl 45 _ HR3.out H.out rfl (by simp [Value.oneCell']) ?_; intro v4 hblk4 hgr4; have HBa := Lib.hid (HB3.out.grown hgr4 HB3.out.size (fun k hk => by injection hk with hk; omega)); have HTa := Lib.hid ((show Blk v3 _ _ _ from HT3.out).grown hgr4 (by simp)); have HRa := Lib.hid hblk4; clear hblk4 hgr4) | (refine wpList_put_row rfl 24 (.tmp 3) (.tmp 32) rfl (w.heap.size + 1 + 1) (sV (x1, x2, x3)) rfl rfl 24 _ HTa.out H3.out rfl (by simp [Value.oneCell']) ?_; intro v5 hblk5 hgr5))
    have hb5 := HBa.out.grown hgr5 HBa.out.size (fun k hk => by injection hk with hk; omega)
    have hr5 := (show Blk v4 _ _ _ from HRa.out).grown hgr5 (by simp)
    have e0 := hr5.cell 0
    have e1 := hr5.cell 1
    have e2 := hr5.cell 2
    have e3 := hr5.cell 3
    have i0 := hblk5.cell 0
    have i1 := hblk5.cell 1
    have i2 := hblk5.cell 2
    exact bodyPost_ret (v := .tuple #[.agg (rdV A n c q3 f3), .agg (sV (x1, x2, x3))]) (by simp [results, Try.results18, go_sem, e0, e1, e2, e3, i0, i1, i2]) rfl ⟨rfl, hb5⟩
  case neg =>
    have hg : (f3.1 != 0) = true := by simpa using h0
    have hg' : (f3.1 == 0) = false := by simpa using h0
    rw [if_neg h0]
    clear h0
    go_enter Try.func18, Try.ntmps18
    go_wp2_with fail
    generalize World.alloc (World.alloc (World.alloc _ _) _) _ = w0 at *
    refine (HE1.out _ HB0.out).mono ?_; rintro e w1 ⟨rfl, hb⟩
    have hk := Blk.below (show Blk w0 _ _ _ from HA0.out) hb (show Blk w0 _ _ _ from HA0.out).lt
    have HX := Lib.hid hk
    have HRx := Lib.hid (Blk.below (show Blk w0 _ _ _ from HR0.out) hb (show Blk w0 _ _ _ from HR0.out).lt)
    have HTx := Lib.hid (Blk.below (show Blk w0 _ _ _ from HT0.out) hb (show Blk w0 _ _ _ from HT0.out).lt)
    have HBx := Lib.hid (HB0.out.trans (hb.mono HB0.out.size))
    clear hb hk
    go_wp2_with (refine wpList_put_row rfl 45 (.tmp 1) (.tmp 10) rfl w.heap.size (rdV A n c q1 f1) rfl rfl 45 _ HX.out H.out rfl (by simp [Value.oneCell']) ?_; intro v1 hblk hgr; have g0 := hblk.cell 0; have g1 := hblk.cell 1; have g2 := hblk.cell 2; have g3 := hblk.cell 3; have HA1 := Lib.hid hblk; have HR1 := Lib.hid ((show Blk w1 _ _ _ from HRx.out).grown hgr (by simp)); have HT1 := Lib.hid ((show Blk w1 _ _ _ from HTx.out).grown hgr (by simp; omega)); have HB1 := Lib.hid (HBx.out.grown hgr HBx.out.size (fun k hk => by injection hk with hk; omega)); clear hblk hgr HX HRx HTx HBx)
    clear g0 g1 g2 g3
    refine (HE2.out _ HB1.out).mono ?_; rintro e w2 ⟨rfl, hb⟩
    have hk := Blk.below (show Blk v1 _ _ _ from HA1.out) hb (show Blk v1 _ _ _ from HA1.out).lt
    have HX := Lib.hid hk
    have HRx := Lib.hid (Blk.below (show Blk v1 _ _ _ from HR1.out) hb (show Blk v1 _ _ _ from HR1.out).lt)
    have HTx := Lib.hid (Blk.below (show Blk v1 _ _ _ from HT1.out) hb (show Blk v1 _ _ _ from HT1.out).lt)
    have HBx := Lib.hid (HB1.out.trans (hb.mono HB1.out.size))
    clear hb hk
    go_wp2_with (refine wpList_put_row rfl 45 (.tmp 1) (.tmp 15) rfl w.heap.size (rdV A n c q2 f2) rfl rfl 45 _ HX.out H.out rfl (by simp [Value.oneCell']) ?_; intro v2 hblk hgr; have g0 := hblk.cell 0; have g1 := hblk.cell 1; have g2 := hblk.cell 2; have g3 := hblk.cell 3; have HA2 := Lib.hid hblk; have HR2 := Lib.hid ((show Blk w2 _ _ _ from HRx.out).grown hgr (by simp)); have HT2 := Lib.hid ((show Blk w2 _ _ _ from HTx.out).grown hgr (by simp; omega)); have HB2 := Lib.hid (HBx.out.grown hgr HBx.out.size (fun k hk => by injection hk with hk; omega)); clear hblk hgr HX HRx HTx HBx)
    clear g0 g1 g2 g3
    refine (HE3.out _ HB2.out).mono ?_; rintro e w3 ⟨rfl, hb⟩
    have hk := Blk.below (show Blk v2 _ _ _ from HA2.out) hb (show Blk v2 _ _ _ from HA2.out).lt
    have HX := Lib.hid hk
    have HRx := Lib.hid (Blk.below (show Blk v2 _ _ _ from HR2.out) hb (show Blk v2 _ _ _ from HR2.out).lt)
    have HTx := Lib.hid (Blk.below (show Blk v2 _ _ _ from HT2.out) hb (show Blk v2 _ _ _ from HT2.out).lt)
    have HBx := Lib.hid (HB2.out.trans (hb.mono HB2.out.size))
    clear hb hk
    go_wp2_with (first | (refine wpList_put_row rfl 45 (.tmp 1) (.tmp 20) rfl w.heap.size (rdV A n c q3 f3) rfl rfl 45 _ HX.out H.out rfl (by simp [Value.oneCell']) ?_; intro v3 hblk hgr; have g0 := hblk.cell 0; have g1 := hblk.cell 1; have g2 := hblk.cell 2; have g3 := hblk.cell 3; have HA3 := Lib.hid hblk; have HR3 := Lib.hid ((show Blk w3 _ _ _ from HRx.out).grown hgr (by simp)); have HT3 := Lib.hid ((show Blk w3 _ _ _ from HTx.out).grown hgr (by simp; omega)); have HB3 := Lib.hid (HBx.out.grown hgr HBx.out.size (fun k hk => by injection hk with hk; omega)); clear hblk hgr HX HRx HTx HBx) | (refine wpList_put_row rfl 45 (.tmp 2) (.tmp 26) rfl (w.heap.size + 1) (rdV A n c q3 f3) rfl rfl 45 _ HR3.out H.out rfl (by simp [Value.oneCell']) ?_; intro v4 hblk4 hgr4; have HBa := Lib.hid (HB3.out.grown hgr4 HB3.out.size (fun k hk => by injection hk with hk; omega)); have HTa := Lib.hid ((show Blk v3 _ _ _ from HT3.out).grown hgr4 (by simp)); have HRa := Lib.hid hblk4; clear hblk4 hgr4) | (refine wpList_put_row rfl 24 (.tmp 3) (.tmp 27) rfl (w.heap.size + 1 + 1) (sV (0, 0, 0)) rfl rfl 24 _ HTa.out H3.out rfl (by simp [Value.oneCell']) ?_; intro v5 hblk5 hgr5))
    have hb5 := HBa.out.grown hgr5 HBa.out.size (fun k hk => by injection hk with hk; omega)
    have hr5 := (show Blk v4 _ _ _ from HRa.out).grown hgr5 (by simp)
    have e0 := hr5.cell 0
    have e1 := hr5.cell 1
    have e2 := hr5.cell 2
    have e3 := hr5.cell 3
    have i0 := hblk5.cell 0
    have i1 := hblk5.cell 1
    have i2 := hblk5.cell 2
    exact bodyPost_ret (v := .tuple #[.agg (rdV A n c q3 f3), .agg (sV (0, 0, 0))]) (by simp [results, Try.results18, go_sem, e0, e1, e2, e3, i0, i1, i2]) rfl ⟨rfl, hb5⟩
end
end Go.Proofs.Ytkhomkklamegmaa
