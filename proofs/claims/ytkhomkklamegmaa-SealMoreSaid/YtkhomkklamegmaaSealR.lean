/- Seals: read by the program and by the reference. -/
import Derived.Test.YtkhomkklamegmaaSeal
namespace Go.Proofs.Ytkhomkklamegmaa
open Go.ChangeShapes Go.WideShapes Go.ChangeAt Go.RowKit
set_option linter.unusedVariables false
section
variable {w : World} {D : Dom} {g : Nat} {l : List UInt8} {p : Nat} {f : Flt}
theorem Rd.put (h : Rd w D g l p f) {a : Addr} (hg : a.block ≠ g) (hD : ¬ D a.block) (u : Value) : Rd (w.setCell a u) D g l p f :=
  h.keep (fun k hk => Below.heap_setCell _ _ _ _ (by
    rintro rfl
    rcases hk with rfl | hk
    · exact hg rfl
    · exact hD hk)) (by simp [World.setCell])
theorem Blk.chg {w w' : World} {F : Dom} {g : Nat} {t : TypeId} {cs : Array Value} (h : Blk w g t cs) (hc : Chg F w w') (hF : ¬ F g) : Blk w' g t cs := (hc.block g h.lt hF).trans h
theorem Chg.trans' {F : Dom} {a b c : World} {k : Nat} (h : Chg F a b) (hg : b.grownBy c (some k)) (hk : a.heap.size ≤ k) : Chg F a c :=
  ⟨hg.os.trans h.os, hg.tape.trans h.tape, hg.output.trans h.output, Nat.le_trans h.size hg.size, fun i hi hn => (hg.block i (Nat.lt_of_lt_of_le hi h.size) (fun e => by injection e with e; omega)).trans (h.block i hi hn)⟩
theorem Rd.grown {w' : World} {k : Nat} (h : Rd w D g l p f) (hg : w.grownBy w' (some k)) (hk : k ≠ g) (hD : ¬ D k) : Rd w' D g l p f :=
  h.keep (fun i hi => hg.block i (by
    rcases hi with rfl | hi
    · exact h.lt
    · exact h.dom i hi) (fun e => by
    injection e with e
    subst e
    rcases hi with rfl | hi
    · exact hk rfl
    · exact hD hi)) hg.size
set_option maxRecDepth 100000 in
set_option maxHeartbeats 2000000 in
theorem sread_at (h : Rd w D g l p f) (hf : OkF f) (hl : l.length ≤ 1000000000) :
    Calls Try.prog 20 #[.pointer (some ⟨g, 0, none⟩)] w fun e w' => e = .returned (.agg (sV (sealF l p f).1)) ∧ Rd w' D g l (sealF l p f).2.1 (sealF l p f).2.2 ∧ Chg (one g) w w' := by
  have H : Hid ((Try.prog.info? 24).map (·.size) = some 3) := by unfold Hid; kernel_rfl
  have HE1 : Hid (∀ w, Rd w D g l p f → Calls Try.prog 36 #[.pointer (some ⟨g, 0, none⟩)] w fun e w' => e = .returned (.int .u64 ((sealR1 l p f).1 : Int)) ∧ Rd w' D g l (sealR1 l p f).2.1 (sealR1 l p f).2.2 ∧ Chg (one g) w w') := fun w h => eread_any h hf hl
  have HE2 : Hid (∀ w, Rd w D g l (sealR1 l p f).2.1 (sealR1 l p f).2.2 → Calls Try.prog 37 #[.pointer (some ⟨g, 0, none⟩), .int .u64 4294967295] w fun e w' => e = .returned (.int .u64 ((sealR2 l p f).1 : Int)) ∧ Rd w' D g l (sealR2 l p f).2.1 (sealR2 l p f).2.2 ∧ Chg (one g) w w') := fun w h => vmost_any h (mustF_ok hf) hl 4294967295
  have HE3 : Hid (∀ w, Rd w D g l (sealR2 l p f).2.1 (sealR2 l p f).2.2 → Calls Try.prog 38 #[.pointer (some ⟨g, 0, none⟩)] w fun e w' => e = .returned (.int .u64 ((sealR3 l p f).1 : Int)) ∧ Rd w' D g l (sealR3 l p f).2.1 (sealR3 l p f).2.2 ∧ Chg (one g) w w') := fun w h => ereadtail_any h (mostF_ok _ (mustF_ok hf)) hl
  unfold sealF
  generalize sealR1 l p f = r1 at *
  generalize sealR2 l p f = r2 at *
  generalize sealR3 l p f = r3 at *
  obtain ⟨x1, q1, f1⟩ := r1
  obtain ⟨x2, q2, f2⟩ := r2
  obtain ⟨x3, q3, f3⟩ := r3
  simp only at HE1 HE2 HE3 ⊢
  have hz := cbelow_two w (.cells (sV (0, 0, 0)) 24) (.cells (sV (0, 0, 0)) 24)
  have HR0 := Lib.hid (h.below hz)
  have HK := Lib.hid ((Blk.new w 24 (sV (0, 0, 0))).alloc (.cells (sV (0, 0, 0)) 24))
  have HT := Lib.hid (cblk_top w (sV (0, 0, 0)) (sV (0, 0, 0)) 24 24)
  have HC0 := Lib.hid (Chg.of_pure hz (one g))
  have hgl := h.lt
  have hne : w.heap.size ≠ g := by omega
  have hne1 : w.heap.size + 1 ≠ g := by omega
  have HD1 : Hid (¬ D (w.heap.size + 1)) := fun hd => by have := h.dom _ hd; omega
  have HD0 : Hid (¬ D w.heap.size) := fun hd => by have := h.dom _ hd; omega
  have HNE1 := Lib.hid hne1
  have HNE := Lib.hid hne
  obtain ⟨X, hX⟩ : ∃ X : Sea × Nat × Flt, X = (if f3.1 = 0 then ((x1, x2, x3), q3, f3) else ((0, 0, 0), q3, f3)) := ⟨_, rfl⟩
  rw [← hX]
  have HX := Lib.hid hX
  clear h hz hf hne hne1 hX
  go_enter Try.func20, Try.ntmps20
  go_wp2_with fail
  generalize World.alloc (World.alloc _ _) _ = w0 at *
  refine (HE1.out _ HR0.out).mono ?_; rintro e w1 ⟨rfl, hr, hc⟩
  have hk := Blk.chg (show Blk w0 _ _ _ from HT.out) hc (fun h => HNE1.out h)
  have fz := hk.frozen 0
  have dz := hk.cell 0
  have HT1 := Lib.hid (show Blk (w1.setCell ⟨w.heap.size + 1, 0, none⟩ (.int .u64 (x1 : Int))) (w.heap.size + 1) 24 #[.int .u64 (x1 : Int), .int .u64 0, .int .u64 0] from hk.put 0 _)
  have HR1 := Lib.hid (hr.put (a := ⟨w.heap.size + 1, 0, none⟩) HNE1.out HD1.out (.int .u64 (x1 : Int)))
  have HC1 := Lib.hid ((HC0.out.trans hc).setCell (p := ⟨w.heap.size + 1, 0, none⟩) (.inr (by simp)) (.int .u64 (x1 : Int)))
  have HK1 := Lib.hid ((Blk.chg (show Blk w0 _ _ _ from HK.out) hc (fun h => HNE.out h)).far (p := ⟨w.heap.size + 1, 0, none⟩) (by simp) (.int .u64 (x1 : Int)))
  clear hr hc hk
  go_wp2_with fail
  clear fz dz
  generalize World.setCell w1 _ _ = w1a at *
  refine (HE2.out _ HR1.out).mono ?_; rintro e w2 ⟨rfl, hr, hc⟩
  have hk := Blk.chg (show Blk w1a _ _ _ from HT1.out) hc (fun h => HNE1.out h)
  have fz := hk.frozen 1
  have dz := hk.cell 1
  have HT2 := Lib.hid (show Blk (w2.setCell ⟨w.heap.size + 1, 1, none⟩ (.int .u64 (x2 : Int))) (w.heap.size + 1) 24 #[.int .u64 (x1 : Int), .int .u64 (x2 : Int), .int .u64 0] from hk.put 1 _)
  have HR2 := Lib.hid (hr.put (a := ⟨w.heap.size + 1, 1, none⟩) HNE1.out HD1.out (.int .u64 (x2 : Int)))
  have HC2 := Lib.hid ((HC1.out.trans hc).setCell (p := ⟨w.heap.size + 1, 1, none⟩) (.inr (by simp)) (.int .u64 (x2 : Int)))
  have HK2 := Lib.hid ((Blk.chg (show Blk w1a _ _ _ from HK1.out) hc (fun h => HNE.out h)).far (p := ⟨w.heap.size + 1, 1, none⟩) (by simp) (.int .u64 (x2 : Int)))
  clear hr hc hk
  go_wp2_with fail
  clear fz dz
  generalize World.setCell w2 _ _ = w2a at *
  refine (HE3.out _ HR2.out).mono ?_; rintro e w3 ⟨rfl, hr, hc⟩
  have hk := Blk.chg (show Blk w2a _ _ _ from HT2.out) hc (fun h => HNE1.out h)
  have fz := hk.frozen 2
  have dz := hk.cell 2
  have HT3 := Lib.hid (show Blk (w3.setCell ⟨w.heap.size + 1, 2, none⟩ (.int .u64 (x3 : Int))) (w.heap.size + 1) 24 #[.int .u64 (x1 : Int), .int .u64 (x2 : Int), .int .u64 (x3 : Int)] from hk.put 2 _)
  have HR3 := Lib.hid (hr.put (a := ⟨w.heap.size + 1, 2, none⟩) HNE1.out HD1.out (.int .u64 (x3 : Int)))
  have HC3 := Lib.hid ((HC2.out.trans hc).setCell (p := ⟨w.heap.size + 1, 2, none⟩) (.inr (by simp)) (.int .u64 (x3 : Int)))
  have HK3 := Lib.hid ((Blk.chg (show Blk w2a _ _ _ from HK2.out) hc (fun h => HNE.out h)).far (p := ⟨w.heap.size + 1, 2, none⟩) (by simp) (.int .u64 (x3 : Int)))
  clear hr hc hk
  go_wp2_with fail
  clear fz dz
  generalize World.setCell w3 _ _ = w3a at *
  have HG := Lib.hid (cgood_at HR3.out)
  by_cases h0 : f3.1 = 0
  · have hg : (f3.1 == 0) = true := by simpa using h0
    have HXX : Hid (X = ((x1, x2, x3), q3, f3)) := HX.out.trans (if_pos h0)
    rw [hg] at HG
    clear h0 hg
    refine HG.out.mono ?_; rintro e w4 ⟨rfl, hb4⟩
    have hk4 := Blk.below (show Blk w3a _ _ _ from HT3.out) hb4 (show Blk w3a _ _ _ from HT3.out).lt
    have d0 := hk4.cell 0
    have d1 := hk4.cell 1
    have d2 := hk4.cell 2
    have HK4 := Lib.hid (Blk.below (show Blk w3a _ _ _ from HK3.out) hb4 (show Blk w3a _ _ _ from HK3.out).lt)
    have HR4 := Lib.hid (HR3.out.below hb4)
    have HC4 := Lib.hid (HC3.out.trans (Chg.of_pure hb4 _))
    clear hk4 hb4
    go_wp2_with (refine wpList_put_row rfl 24 (.tmp 2) (.tmp 17) rfl w.heap.size (sV (x1, x2, x3)) rfl rfl 24 _ HK4.out H.out rfl (by simp [Value.oneCell']) ?_; intro w5 hblk hgr)
    have hXX := HXX.out
    clear HX HXX
    subst hXX
    have hch : Chg (one g) w w5 := HC4.out.trans' hgr (Nat.le_refl _)
    exact bodyPost_ret (results_cell_row rfl _ _ w.heap.size 24 _ (0, 0) _ rfl hblk Try.underlying24 rfl H.out) rfl ⟨rfl, HR4.out.grown hgr HNE.out HD0.out, hch⟩
  · have hg : (f3.1 == 0) = false := by simpa using h0
    have HXX : Hid (X = ((0, 0, 0), q3, f3)) := HX.out.trans (if_neg h0)
    rw [hg] at HG
    clear h0 hg
    refine HG.out.mono ?_; rintro e w4 ⟨rfl, hb4⟩
    have HK4 := Lib.hid (Blk.below (show Blk w3a _ _ _ from HK3.out) hb4 (show Blk w3a _ _ _ from HK3.out).lt)
    have HR4 := Lib.hid (HR3.out.below hb4)
    have HC4 := Lib.hid (HC3.out.trans (Chg.of_pure hb4 _))
    clear hb4
    go_wp2_with (refine wpList_put_row rfl 24 (.tmp 2) (.tmp 16) rfl w.heap.size (sV (0, 0, 0)) rfl rfl 24 _ HK4.out H.out rfl (by simp [Value.oneCell']) ?_; intro w5 hblk hgr)
    have hXX := HXX.out
    clear HX HXX
    subst hXX
    have hch : Chg (one g) w w5 := HC4.out.trans' hgr (Nat.le_refl _)
    exact bodyPost_ret (results_cell_row rfl _ _ w.heap.size 24 _ (0, 0) _ rfl hblk Try.underlying24 rfl H.out) rfl ⟨rfl, HR4.out.grown hgr HNE.out HD0.out, hch⟩
end
end Go.Proofs.Ytkhomkklamegmaa
