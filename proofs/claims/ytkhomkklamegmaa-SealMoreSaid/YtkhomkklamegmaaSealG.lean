/- Seals: got, Get, Decode. -/
import Derived.Test.YtkhomkklamegmaaSealT
import Derived.RegionTactic
import Derived.Deep.RegionWith
namespace Go.Proofs.Ytkhomkklamegmaa
open Go.ChangeShapes Go.WideShapes Go.ChangeAt Go.RowKit
set_option linter.unusedVariables false
abbrev fV (f : Flt) : Array Value := #[.int .i64 f.1, .int .i64 f.2]
theorem Rd.drew {w : World} {D : Dom} {g : Nat} {l : List UInt8} {p : Nat} {f : Flt} (h : Rd w D g l p f) : Rd w.drew D g l p f := h.keep (fun _ _ => rfl) (Nat.le_refl _)
theorem below_drewB {B : Nat} {w w' : World} (h : Below B w w') : Below B w.drew w'.drew := ⟨h.os, h.tape, h.output, h.size, h.block⟩
def pick0 {α : Type} (f : Flt) (a b : α) : α := if f.1 = 0 then a else b
section
variable {w : World} {D : Dom} {g : Nat} {l : List UInt8} {p : Nat} {f : Flt}
set_option maxRecDepth 100000 in
set_option maxHeartbeats 2000000 in
theorem sgot_bad (s : Sea) (h : Rd w D g l p f) (h0 : f.1 ≠ 0) :
    Calls Try.prog 31 #[.pointer (some ⟨g, 0, none⟩), .agg (sV s)] w fun e w' => e = .returned (.tuple #[.agg (sV (0, 0, 0)), .int .i64 0, .agg (fV f)]) ∧ Below w.heap.size w w' := by
  have H : Hid ((Try.prog.info? 37).map (·.size) = some 2) := by unfold Hid; kernel_rfl
  have H3 : Hid ((Try.prog.info? 24).map (·.size) = some 3) := by unfold Hid; kernel_rfl
  obtain ⟨f1, f2⟩ := f
  have hz := cbelow_three w (.cells (sV s) 24) (.cells (sV (0, 0, 0)) 24) (.cells (fV (0, 0)) 37)
  have HR := Lib.hid (h.below hz)
  have HZ := Lib.hid hz
  have HS := Lib.hid ((Blk.new w 24 (sV s)).alloc (.cells (sV (0, 0, 0)) 24) |>.alloc (.cells (fV (0, 0)) 37))
  have HT := Lib.hid ((cblk_top w (sV s) (sV (0, 0, 0)) 24 24).alloc (.cells (fV (0, 0)) 37))
  have HU : Hid (Blk (((w.alloc (.cells (sV s) 24)).alloc (.cells (sV (0, 0, 0)) 24)).alloc (.cells (fV (0, 0)) 37)) (w.heap.size + 1 + 1) 37 (fV (0, 0))) := by
    have := Blk.new ((w.alloc (.cells (sV s) 24)).alloc (.cells (sV (0, 0, 0)) 24)) 37 (fV (0, 0))
    have e : ((w.alloc (.cells (sV s) 24)).alloc (.cells (sV (0, 0, 0)) 24)).heap.size = w.heap.size + 1 + 1 := by simp
    rw [e] at this
    exact this
  have hg : (f1 == 0) = false := by simpa using h0
  clear h h0 hz
  go_enter Try.func31, Try.ntmps31
  go_wp2_with fail
  generalize World.alloc (World.alloc (World.alloc _ _) _) _ = w0 at *
  have hz0 := HZ.out.size
  refine (cfault_at HR.out).mono ?_; rintro e w1 ⟨rfl, hb1⟩
  have hl1 := hb1.size
  have hu := (show Blk w0 _ _ _ from HU.out).lt
  have HR1 := Lib.hid (HR.out.below hb1)
  have HS1 := Lib.hid (Blk.below (show Blk w0 _ _ _ from HS.out) hb1 (show Blk w0 _ _ _ from HS.out).lt)
  have HT1 := Lib.hid (Blk.below (show Blk w0 _ _ _ from HT.out) hb1 (show Blk w0 _ _ _ from HT.out).lt)
  have HU1 := Lib.hid (Blk.below (show Blk w0 _ _ _ from HU.out) hb1 (show Blk w0 _ _ _ from HU.out).lt)
  have HB1 := Lib.hid (HZ.out.trans (hb1.mono HZ.out.size))
  clear hb1
  go_wp2_with fail
  refine (fgood_any _ _ _).mono ?_; rintro e w2 ⟨rfl, hb2⟩
  have hn1 := Blk.new w1 37 (fV (f1, f2))
  have hn2 := hn1.below hb2 hn1.lt
  have ht2 := (HT1.out.alloc (.cells (fV (f1, f2)) 37)).below hb2 (HT1.out.alloc _).lt
  have hu2 := (HU1.out.alloc (.cells (fV (f1, f2)) 37)).below hb2 (HU1.out.alloc _).lt
  have HB2 := Lib.hid ((HB1.out.alloc HB1.out.size (.cells (fV (f1, f2)) 37)).trans (hb2.mono (HB1.out.alloc HB1.out.size (.cells (fV (f1, f2)) 37)).size))
  have a0 := hn2.cell 0
  have a1 := hn2.cell 1
  have b0 := ht2.cell 0
  have b1 := ht2.cell 1
  have b2 := ht2.cell 2
  have bf0 := ht2.frozen 0
  have bf1 := ht2.frozen 1
  have bf2 := ht2.frozen 2
  have c0 := hu2.cell 0
  have c1 := hu2.cell 1
  have cf0 := hu2.frozen 0
  have cf1 := hu2.frozen 1
  generalize hgn : w1.heap.size = gn at *
  have hne1 : gn ≠ w.heap.size + 1 := by omega
  have hne2 : gn ≠ w.heap.size + 1 + 1 := by omega
  clear hb2 hn1 hn2 ht2 hu2 hgn
  go_wp2_with fail
  go_region
  go_wp2_with fail
  refine bodyPost_ret (v := .tuple #[.agg (sV (0, 0, 0)), .int .i64 0, .agg (fV (f1, f2))]) (by simp [results, Try.results31, go_sem, b0, b1, b2, c0, c1]) rfl ⟨rfl, ?_⟩
  exact (((((HB2.out.setCell (by dsimp only; omega) _).setCell (by dsimp only; omega) _).setCell (by dsimp only; omega) _).setCell (by dsimp only; omega) _).setCell (by dsimp only; omega) _).drew
set_option maxRecDepth 100000 in
set_option maxHeartbeats 2000000 in
theorem sgot_ok (s : Sea) (h : Rd w D g l p f) (h0 : f.1 = 0) :
    Calls Try.prog 31 #[.pointer (some ⟨g, 0, none⟩), .agg (sV s)] w fun e w' => e = .returned (.tuple #[.agg (sV s), .int .i64 (p : Int), .agg (fV (0, 0))]) ∧ Below w.heap.size w w' := by
  have H : Hid ((Try.prog.info? 37).map (·.size) = some 2) := by unfold Hid; kernel_rfl
  have H3 : Hid ((Try.prog.info? 24).map (·.size) = some 3) := by unfold Hid; kernel_rfl
  obtain ⟨f1, f2⟩ := f
  have hz := cbelow_three w (.cells (sV s) 24) (.cells (sV (0, 0, 0)) 24) (.cells (fV (0, 0)) 37)
  have HR := Lib.hid (h.below hz)
  have HZ := Lib.hid hz
  have HS := Lib.hid ((Blk.new w 24 (sV s)).alloc (.cells (sV (0, 0, 0)) 24) |>.alloc (.cells (fV (0, 0)) 37))
  have HT := Lib.hid ((cblk_top w (sV s) (sV (0, 0, 0)) 24 24).alloc (.cells (fV (0, 0)) 37))
  have HU : Hid (Blk (((w.alloc (.cells (sV s) 24)).alloc (.cells (sV (0, 0, 0)) 24)).alloc (.cells (fV (0, 0)) 37)) (w.heap.size + 1 + 1) 37 (fV (0, 0))) := by
    have := Blk.new ((w.alloc (.cells (sV s) 24)).alloc (.cells (sV (0, 0, 0)) 24)) 37 (fV (0, 0))
    have e : ((w.alloc (.cells (sV s) 24)).alloc (.cells (sV (0, 0, 0)) 24)).heap.size = w.heap.size + 1 + 1 := by simp
    rw [e] at this
    exact this
  have hg : (f1 == 0) = true := by simpa using h0
  clear h h0 hz
  go_enter Try.func31, Try.ntmps31
  go_wp2_with fail
  generalize World.alloc (World.alloc (World.alloc _ _) _) _ = w0 at *
  have hz0 := HZ.out.size
  refine (cfault_at HR.out).mono ?_; rintro e w1 ⟨rfl, hb1⟩
  have hl1 := hb1.size
  have hu := (show Blk w0 _ _ _ from HU.out).lt
  have HR1 := Lib.hid (HR.out.below hb1)
  have HS1 := Lib.hid (Blk.below (show Blk w0 _ _ _ from HS.out) hb1 (show Blk w0 _ _ _ from HS.out).lt)
  have HT1 := Lib.hid (Blk.below (show Blk w0 _ _ _ from HT.out) hb1 (show Blk w0 _ _ _ from HT.out).lt)
  have HU1 := Lib.hid (Blk.below (show Blk w0 _ _ _ from HU.out) hb1 (show Blk w0 _ _ _ from HU.out).lt)
  have HB1 := Lib.hid (HZ.out.trans (hb1.mono HZ.out.size))
  clear hb1
  go_wp2_with fail
  refine (fgood_any _ _ _).mono ?_; rintro e w2 ⟨rfl, hb2⟩
  have hn1 := Blk.new w1 37 (fV (f1, f2))
  have hn2 := hn1.below hb2 hn1.lt
  have ht2 := (HT1.out.alloc (.cells (fV (f1, f2)) 37)).below hb2 (HT1.out.alloc _).lt
  have hu2 := (HU1.out.alloc (.cells (fV (f1, f2)) 37)).below hb2 (HU1.out.alloc _).lt
  have HB2 := Lib.hid ((HB1.out.alloc HB1.out.size (.cells (fV (f1, f2)) 37)).trans (hb2.mono (HB1.out.alloc HB1.out.size (.cells (fV (f1, f2)) 37)).size))
  have hs2 := (HS1.out.alloc (.cells (fV (f1, f2)) 37)).below hb2 (HS1.out.alloc _).lt
  have HR2 := Lib.hid (((HR1.out.below ((Below.refl _ _).alloc (Nat.le_refl _) (.cells (fV (f1, f2)) 37))).below hb2).drew)
  have s0 := hs2.cell 0
  have s1 := hs2.cell 1
  have s2 := hs2.cell 2
  have a0 := hn2.cell 0
  have a1 := hn2.cell 1
  have b0 := ht2.cell 0
  have b1 := ht2.cell 1
  have b2 := ht2.cell 2
  have bf0 := ht2.frozen 0
  have bf1 := ht2.frozen 1
  have bf2 := ht2.frozen 2
  have c0 := hu2.cell 0
  have c1 := hu2.cell 1
  have cf0 := hu2.frozen 0
  have cf1 := hu2.frozen 1
  generalize hgn : w1.heap.size = gn at *
  have hne1 : gn ≠ w.heap.size + 1 := by omega
  have hne2 : gn ≠ w.heap.size + 1 + 1 := by omega
  clear hb2 hn1 hn2 ht2 hu2 hgn hs2
  go_wp2_with fail
  go_region_with ((go_at_call 50; refine (cat_at HR2.out).mono ?_; rintro e w4 ⟨rfl, rfl⟩))
  all_goals
    go_wp2_with fail
    refine bodyPost_ret (v := .tuple #[.agg (sV s), .int .i64 (p : Int), .agg (fV (0, 0))]) (by simp [results, Try.results31, go_sem, b0, b1, b2, c0, c1]) rfl ⟨rfl, ?_⟩
    exact (((((HB2.out.setCell (by dsimp only; omega) _).setCell (by dsimp only; omega) _).setCell (by dsimp only; omega) _).setCell (by dsimp only; omega) _).setCell (by dsimp only; omega) _).drew
/-- What 'got' makes of a reading. -/
def gotS (s : Sea) (f : Flt) : Sea := if f.1 = 0 then s else (0, 0, 0)
def gotN (p : Nat) (f : Flt) : Int := if f.1 = 0 then (p : Int) else 0
theorem sgot_any (s : Sea) (hf : OkF f) (h : Rd w D g l p f) :
    Calls Try.prog 31 #[.pointer (some ⟨g, 0, none⟩), .agg (sV s)] w fun e w' => e = .returned (.tuple #[.agg (sV (gotS s f)), .int .i64 (gotN p f), .agg (fV f)]) ∧ Below w.heap.size w w' := by
  by_cases h0 : f.1 = 0
  · have e1 : gotS s f = s := if_pos h0
    have e2 : gotN p f = p := if_pos h0
    have e3 := hf.eq h0
    rw [e1, e2]
    have := sgot_ok s h h0
    rw [e3]; exact this
  · have e1 : gotS s f = (0, 0, 0) := if_neg h0
    have e2 : gotN p f = 0 := if_neg h0
    rw [e1, e2]
    exact sgot_bad s h h0
end
theorem sealF_fail0 {l : List UInt8} {p : Nat} {f : Flt} (h : (sealF l p f).2.2.1 ≠ 0) : (sealF l p f).1 = (0, 0, 0) := by
  unfold sealF at h ⊢
  split
  · rename_i h0
    rw [if_pos h0] at h
    exact absurd h0 h
  · rfl
theorem sealF_place {l : List UInt8} {p : Nat} {f : Flt} (hp : p ≤ l.length) : (sealF l p f).2.1 ≤ l.length := by
  have h1 : (sealR1 l p f).2.1 ≤ l.length := by unfold sealR1; rw [mustF_q]; exact (vrdF_le hp).1
  have h2 : (sealR2 l p f).2.1 ≤ l.length := by unfold sealR2; rw [mostF_q]; exact (vrdF_le h1).1
  have h3 : (sealR3 l p f).2.1 ≤ l.length := by unfold sealR3; rw [mustF_q]; exact (vrdF_le h2).1
  unfold sealF; split <;> exact h3
section
variable {w : World} {D : Dom} {A : Option Addr} {n c : Nat} {l : List UInt8}
set_option maxRecDepth 100000 in
set_option maxHeartbeats 2000000 in
theorem sget_any (h : rpU8.sl w D A n c l) (hD : ∀ k, D k → k < w.heap.size) (hn : n ≤ 1000000000) :
    Calls Try.prog 15 #[.slice A n c] w fun e w' => e = .returned (.tuple #[.agg (sV (sealF l 0 (0, 0)).1), .int .i64 (gotN (sealF l 0 (0, 0)).2.1 (sealF l 0 (0, 0)).2.2), .agg (fV (sealF l 0 (0, 0)).2.2)]) ∧ Below w.heap.size w w' := by
  obtain ⟨hlen, _, _⟩ := Rp.sl_len h
  have hl : l.length ≤ 1000000000 := by omega
  have hok : OkF (sealF l 0 (0, 0)).2.2 := sealF_ok OkF.nil
  have hgs : gotS (sealF l 0 (0, 0)).1 (sealF l 0 (0, 0)).2.2 = (sealF l 0 (0, 0)).1 := by
    unfold gotS
    split
    · rfl
    · rename_i h; exact (sealF_fail0 h).symm
  have HRD : Hid (∀ (w : World) (g : Nat), Rd w D g l 0 (0, 0) → Calls Try.prog 20 #[.pointer (some ⟨g, 0, none⟩)] w fun e w' => e = .returned (.agg (sV (sealF l 0 (0, 0)).1)) ∧ Rd w' D g l (sealF l 0 (0, 0)).2.1 (sealF l 0 (0, 0)).2.2 ∧ Chg (one g) w w') := fun w g h => sread_at h OkF.nil hl
  generalize sealF l 0 (0, 0) = r at *
  obtain ⟨s, q, f⟩ := r
  simp only at HRD hok hgs ⊢
  have HGOT : Hid (∀ (w : World) (g : Nat), Rd w D g l q f → Calls Try.prog 31 #[.pointer (some ⟨g, 0, none⟩), .agg (sV s)] w fun e w' => e = .returned (.tuple #[.agg (sV s), .int .i64 (gotN q f), .agg (fV f)]) ∧ Below w.heap.size w w') := fun w g h => by
    have := sgot_any s hok h
    rwa [hgs] at this
  have hz := cbelow_two w (.cells (sV (0, 0, 0)) 24) (.cells (fV (0, 0)) 37)
  have HNEW := Lib.hid (cnew_any (Rp.sl_below h hz hD) (fun k hk => Nat.lt_of_lt_of_le (hD k hk) hz.size))
  have HK := Lib.hid ((Blk.new w 24 (sV (0, 0, 0))).alloc (.cells (fV (0, 0)) 37))
  have HT := Lib.hid (cblk_top w (sV (0, 0, 0)) (fV (0, 0)) 24 37)
  have HZ := Lib.hid hz
  clear h hD hz hok hgs hlen hl
  go_enter Try.func15, Try.ntmps15
  go_wp2_with fail
  generalize World.alloc (World.alloc _ _) _ = w0 at *
  have hz0 := HZ.out.size
  have hk0 := (show Blk w0 _ _ _ from HK.out).lt
  have ht0 := (show Blk w0 _ _ _ from HT.out).lt
  refine HNEW.out.mono ?_; rintro e w1 ⟨rfl, hr1, hb1⟩
  have HR1 := Lib.hid hr1
  have HB1 := Lib.hid (HZ.out.trans (hb1.mono hz0))
  have HK1 := Lib.hid (Blk.below (show Blk w0 _ _ _ from HK.out) hb1 hk0)
  have HT1 := Lib.hid (Blk.below (show Blk w0 _ _ _ from HT.out) hb1 ht0)
  generalize hgr : w0.heap.size = gr at *
  clear hr1 hb1
  go_wp2_with fail
  refine (HRD.out _ _ HR1.out).mono ?_; rintro e w2 ⟨rfl, hr2, hc2⟩
  have HB2 := Lib.hid (HB1.out.trans ((hc2.below (B := w.heap.size) HB1.out.size (fun k hk => by have : k = gr := hk; omega))))
  have HK2 := Lib.hid ((hc2.block _ (show Blk w1 _ _ _ from HK1.out).lt (fun hk => by have : w.heap.size = gr := hk; omega)).trans HK1.out)
  have HT2 := Lib.hid ((hc2.block _ (show Blk w1 _ _ _ from HT1.out).lt (fun hk => by have : w.heap.size + 1 = gr := hk; omega)).trans HT1.out)
  have HR2 := Lib.hid (hr2.below ((Below.refl _ _).alloc (Nat.le_refl _) (.cells (sV s) 24)))
  have HK3 := Lib.hid (Blk.alloc (show Blk w2 _ _ _ from HK2.out) (.cells (sV s) 24))
  have HT3 := Lib.hid (Blk.alloc (show Blk w2 _ _ _ from HT2.out) (.cells (sV s) 24))
  have HB3 := Lib.hid (HB2.out.alloc HB2.out.size (.cells (sV s) 24))
  clear hr2 hc2
  go_wp2_with fail
  generalize World.alloc w2 _ = w3 at *
  refine (HGOT.out _ _ HR2.out).mono ?_; rintro e w4 ⟨rfl, hb4⟩
  have hk4 := Blk.below (show Blk w3 w.heap.size 24 (sV (0, 0, 0)) from HK3.out) hb4 (show Blk w3 w.heap.size 24 (sV (0, 0, 0)) from HK3.out).lt
  have ht4 := Blk.below (show Blk w3 (w.heap.size + 1) 37 (fV (0, 0)) from HT3.out) hb4 (show Blk w3 (w.heap.size + 1) 37 (fV (0, 0)) from HT3.out).lt
  have b0 := hk4.cell 0
  have b1 := hk4.cell 1
  have b2 := hk4.cell 2
  have bf0 := hk4.frozen 0
  have bf1 := hk4.frozen 1
  have bf2 := hk4.frozen 2
  have c0 := ht4.cell 0
  have c1 := ht4.cell 1
  have cf0 := ht4.frozen 0
  have cf1 := ht4.frozen 1
  have HB4 := Lib.hid (HB3.out.trans (hb4.mono HB3.out.size))
  clear hb4 hk4 ht4
  go_wp2_with fail
  refine bodyPost_ret (v := .tuple #[.agg (sV s), .int .i64 (gotN q f), .agg (fV f)]) (by simp [results, Try.results15, go_sem, b0, b1, b2, c0, c1]) rfl ⟨rfl, ?_⟩
  exact (((((HB4.out.setCell (by dsimp only; omega) _).setCell (by dsimp only; omega) _).setCell (by dsimp only; omega) _).setCell (by dsimp only; omega) _).setCell (by dsimp only; omega) _)
end
end Go.Proofs.Ytkhomkklamegmaa
