/- Seals: Decode; the reference's bytes; the law's example. -/
import Derived.Test.YtkhomkklamegmaaSealG
namespace Go.Proofs.Ytkhomkklamegmaa
open Go.ChangeShapes Go.WideShapes Go.ChangeAt Go.RowKit
set_option linter.unusedVariables false
theorem own_below {w w' : World} {base : Nat} {e : TypeId} {size : Nat} {v : Value} {n : Nat} {xs : List Value} (h : w.ownsRow base e size v n xs) (hb : Below w.heap.size w w') : w'.ownsRow base e size v n xs :=
  ownsRow_same h (fun k hk => hb.block k (h.lt k hk).2)
theorem hk_ne {w : World} {g : Nat} {e t : TypeId} {cs : Array Value} {base size n : Nat} {v : Value} {xs : List Value} (hb : Blk w g t cs) (ho : w.ownsRow base e size v n xs) (hne : e ≠ t) : some g ≠ v.ownBlock := Pen.ne' hb ho hne
section
variable {w : World} {D : Dom} {A : Option Addr} {n c : Nat} {l : List UInt8}
set_option maxRecDepth 100000 in
set_option maxHeartbeats 2000000 in
theorem sdecode_any (h : rpU8.sl w D A n c l) (hD : ∀ k, D k → k < w.heap.size) (hn : n ≤ 1000000000) :
    Calls Try.prog 16 #[.slice A n c] w fun e w' => e = .returned (.tuple #[.agg (sV (gotS (sealF l 0 (0, 0)).1 (endF l.length (sealF l 0 (0, 0)).2.1 (sealF l 0 (0, 0)).2.2))), .agg (fV (endF l.length (sealF l 0 (0, 0)).2.1 (sealF l 0 (0, 0)).2.2))]) ∧ Below w.heap.size w w' := by
  obtain ⟨hlen, _, _⟩ := Rp.sl_len h
  have hl : l.length ≤ 1000000000 := by omega
  have hok : OkF (sealF l 0 (0, 0)).2.2 := sealF_ok OkF.nil
  have hok2 : OkF (endF l.length (sealF l 0 (0, 0)).2.1 (sealF l 0 (0, 0)).2.2) := by
    unfold endF
    split
    · exact hok.fail _ _
    · exact hok
  have HRD : Hid (∀ (w : World) (g : Nat), Rd w D g l 0 (0, 0) → Calls Try.prog 20 #[.pointer (some ⟨g, 0, none⟩)] w fun e w' => e = .returned (.agg (sV (sealF l 0 (0, 0)).1)) ∧ Rd w' D g l (sealF l 0 (0, 0)).2.1 (sealF l 0 (0, 0)).2.2 ∧ Chg (one g) w w') := fun w g h => sread_at h OkF.nil hl
  generalize sealF l 0 (0, 0) = r at *
  obtain ⟨s, q, f⟩ := r
  simp only at HRD hok hok2 ⊢
  have HGOT : Hid (∀ (w : World) (g : Nat), Rd w D g l q (endF l.length q f) → Calls Try.prog 31 #[.pointer (some ⟨g, 0, none⟩), .agg (sV s)] w fun e w' => e = .returned (.tuple #[.agg (sV (gotS s (endF l.length q f))), .int .i64 (gotN q (endF l.length q f)), .agg (fV (endF l.length q f))]) ∧ Below w.heap.size w w') := fun w g h => sgot_any s hok2 h
  have HEND : Hid (∀ (w : World) (g : Nat), Rd w D g l q f → Calls Try.prog 32 #[.pointer (some ⟨g, 0, none⟩)] w fun e w' => e = .returned (.tuple #[]) ∧ Rd w' D g l q (endF l.length q f) ∧ Chg (one g) w w') := fun w g h => cend_at h
  generalize endF l.length q f = f' at *
  generalize gotN q f' = N at *
  generalize gotS s f' = s' at *
  have hz := cbelow_two w (.cells (sV (0, 0, 0)) 24) (.cells (fV (0, 0)) 37)
  have HNEW := Lib.hid (cnew_any (Rp.sl_below h hz hD) (fun k hk => Nat.lt_of_lt_of_le (hD k hk) hz.size))
  have HK := Lib.hid ((Blk.new w 24 (sV (0, 0, 0))).alloc (.cells (fV (0, 0)) 37))
  have HT := Lib.hid (cblk_top w (sV (0, 0, 0)) (fV (0, 0)) 24 37)
  have HZ := Lib.hid hz
  clear h hD hz hok hok2 hlen hl
  go_enter Try.func16, Try.ntmps16
  go_wp2_with fail
  generalize World.alloc (World.alloc _ _) _ = w0 at *
  have hz0 := HZ.out.size
  have hk0 := (show Blk w0 _ _ _ from HK.out).lt
  have ht0 := (show Blk w0 _ _ _ from HT.out).lt
  refine HNEW.out.mono ?_; rintro e w1 ⟨rfl, hr1, hb1⟩
  have HR1 := Lib.hid hr1
  have HB1 := Lib.hid (HZ.out.trans (hb1.mono hz0))
  have HK1 := Lib.hid (Blk.below (show Blk w0 _ _ _ from HK.out) hb1 hk0)
  have HT1 := Lib.hid (Blk.below (show Blk w0 _ _ _ from HT.out) hb1 ht0)
  generalize hgr : w0.heap.size = gr at *
  clear hr1 hb1
  go_wp2_with fail
  refine (HRD.out _ _ HR1.out).mono ?_; rintro e w2 ⟨rfl, hr2, hc2⟩
  have HB2 := Lib.hid (HB1.out.trans ((hc2.below (B := w.heap.size) HB1.out.size (fun k hk => by have : k = gr := hk; omega))))
  have HK2 := Lib.hid ((hc2.block _ (show Blk w1 _ _ _ from HK1.out).lt (fun hk => by have : w.heap.size = gr := hk; omega)).trans HK1.out)
  have HT2 := Lib.hid ((hc2.block _ (show Blk w1 _ _ _ from HT1.out).lt (fun hk => by have : w.heap.size + 1 = gr := hk; omega)).trans HT1.out)
  have HR3 := Lib.hid (hr2.below ((Below.refl _ _).alloc (Nat.le_refl _) (.cells (sV s) 24)))
  have HK3 := Lib.hid (Blk.alloc (show Blk w2 _ _ _ from HK2.out) (.cells (sV s) 24))
  have HT3 := Lib.hid (Blk.alloc (show Blk w2 _ _ _ from HT2.out) (.cells (sV s) 24))
  have HV3 := Lib.hid (Blk.new w2 24 (sV s))
  have HB3 := Lib.hid (HB2.out.alloc HB2.out.size (.cells (sV s) 24))
  have hgr2 := hr2.lt
  have hkk : w.heap.size + 1 < w2.heap.size := (show Blk w2 _ _ _ from HT2.out).lt
  clear hr2 hc2
  go_wp2_with fail
  generalize hgv : w2.heap.size = gv at *
  generalize World.alloc w2 _ = w3 at *
  refine (HEND.out _ _ HR3.out).mono ?_; rintro e w4 ⟨rfl, hr4, hc4⟩
  have HB4 := Lib.hid (HB3.out.trans ((hc4.below (B := w.heap.size) HB3.out.size (fun k hk => by have : k = gr := hk; omega))))
  have HK4 := Lib.hid ((hc4.block _ (show Blk w3 _ _ _ from HK3.out).lt (fun hk => by have : w.heap.size = gr := hk; omega)).trans HK3.out)
  have HT4 := Lib.hid ((hc4.block _ (show Blk w3 _ _ _ from HT3.out).lt (fun hk => by have : w.heap.size + 1 = gr := hk; omega)).trans HT3.out)
  have hv4 : Blk w4 gv 24 (sV s) := ((hc4.block _ (show Blk w3 _ _ _ from HV3.out).lt (fun hk => by have : gv = gr := hk; omega)).trans HV3.out)
  have v0 := hv4.cell 0
  have v1 := hv4.cell 1
  have v2 := hv4.cell 2
  have HV4 := Lib.hid hv4
  have HR4 := Lib.hid hr4
  clear hr4 hc4 hv4
  go_wp2_with fail
  refine (HGOT.out _ _ HR4.out).mono ?_; rintro e w5 ⟨rfl, hb5⟩
  have hv5 := Blk.below (show Blk w4 gv 24 (sV s) from HV4.out) hb5 (show Blk w4 gv 24 (sV s) from HV4.out).lt
  have hk5 := Blk.below (show Blk w4 w.heap.size 24 (sV (0, 0, 0)) from HK4.out) hb5 (show Blk w4 w.heap.size 24 (sV (0, 0, 0)) from HK4.out).lt
  have ht5 := Blk.below (show Blk w4 (w.heap.size + 1) 37 (fV (0, 0)) from HT4.out) hb5 (show Blk w4 (w.heap.size + 1) 37 (fV (0, 0)) from HT4.out).lt
  have HB5 := Lib.hid (HB4.out.trans (hb5.mono HB4.out.size))
  have hl5 := hv5.lt
  have hl5' := ht5.lt
  have hl50 := hk5.lt
  clear v0 v1 v2 hb5
  have v0 := hv5.cell 0
  have v1 := hv5.cell 1
  have v2 := hv5.cell 2
  have vf0 := hv5.frozen 0
  have vf1 := hv5.frozen 1
  have vf2 := hv5.frozen 2
  have b0 := hk5.cell 0
  have b1 := hk5.cell 1
  have b2 := hk5.cell 2
  have bf0 := hk5.frozen 0
  have bf1 := hk5.frozen 1
  have bf2 := hk5.frozen 2
  have c0 := ht5.cell 0
  have c1 := ht5.cell 1
  have cf0 := ht5.frozen 0
  have cf1 := ht5.frozen 1
  clear hv5 hk5 ht5
  have hne1 : gv ≠ w.heap.size := by omega
  have hne2 : gv ≠ w.heap.size + 1 := by omega
  have hne3 : w5.heap.size ≠ w.heap.size := by omega
  have hne4 : w5.heap.size ≠ w.heap.size + 1 := by omega
  have hne5 : w5.heap.size ≠ gv := by omega
  go_wp2_with fail
  go_region
  go_wp2_with fail
  refine bodyPost_ret (v := .tuple #[.agg (sV s'), .agg (fV f')]) (by simp [results, Try.results16, go_sem, b0, b1, b2, c0, c1, hl50, hl5']) rfl ⟨rfl, ?_⟩
  have hb6 := (((((((HB5.out.setCell (p := ⟨gv, 0, none⟩) (by dsimp only; omega) (.int .u64 (s'.1 : Int))).setCell (p := ⟨gv, 1, none⟩) (by dsimp only; omega) (.int .u64 (s'.2.1 : Int))).setCell (p := ⟨gv, 2, none⟩) (by dsimp only; omega) (.int .u64 (s'.2.2 : Int))).setCell (p := ⟨w.heap.size, 0, none⟩) (by dsimp only; omega) (.int .u64 (s'.1 : Int))).setCell (p := ⟨w.heap.size, 1, none⟩) (by dsimp only; omega) (.int .u64 (s'.2.1 : Int))).setCell (p := ⟨w.heap.size, 2, none⟩) (by dsimp only; omega) (.int .u64 (s'.2.2 : Int))).setCell (p := ⟨w.heap.size + 1, 0, none⟩) (by dsimp only; omega) (.int .i64 f'.1)).setCell (p := ⟨w.heap.size + 1, 1, none⟩) (by dsimp only; omega) (.int .i64 f'.2)
  exact (hb6.alloc hb6.size _).drew
end
theorem rsbytes_any (s : Sea) (hs : ∀ x ∈ [s.1, s.2.1, s.2.2], x < 18446744073709551616) (w : World) :
    Calls Try.prog 17 #[.agg (sV s)] w fun e w' => ∃ A n c, e = .returned (.slice A n c) ∧ w'.ownsRow w.heap.size 5 1 (.slice A n c) n ((sbytes s).map bv) ∧ Below w.heap.size w w' := by
  obtain ⟨x, y, z⟩ := s
  have h1 : x < 18446744073709551616 := hs x (by simp)
  have h2 : y < 18446744073709551616 := hs y (by simp)
  have h3 : z < 18446744073709551616 := hs z (by simp)
  have l1 := vbytes_10 h1
  have l2 := vbytes_10 h2
  have l3 := vbytes_10 h3
  have HV : Hid (∀ (x : Nat) (w : World), x < 18446744073709551616 → Calls Try.prog 33 #[.int .u64 (x : Int)] w fun e w' => ∃ A n c, e = .returned (.slice A n c) ∧ w'.ownsRow w.heap.size 5 1 (.slice A n c) n ((vbytes x).map bv) ∧ Below w.heap.size w w') := fun x w hx => rvbytes_any 9 x w (by omega) (by decide) hx
  have HK0 := Lib.hid (Blk.new w 24 (sV (x, y, z)))
  have HB0 : Hid (Below w.heap.size w (w.alloc (.cells (sV (x, y, z)) 24))) := (Below.refl _ _).alloc (Nat.le_refl _) _
  have H1 := Lib.hid h1
  have H2 := Lib.hid h2
  have H3 := Lib.hid h3
  clear hs h1 h2 h3
  go_enter Try.func17, Try.ntmps17
  go_wp2_with fail
  generalize World.alloc w _ = w0 at *
  have hz0 := HB0.out.size
  refine (HV.out x _ H1.out).mono ?_; rintro e w1 ⟨A1, n1, c1, rfl, ho1, hb1⟩
  have hk1 := Blk.below (show Blk w0 _ _ _ from HK0.out) hb1 (show Blk w0 _ _ _ from HK0.out).lt
  have d1 := hk1.cell 1
  have HK1 := Lib.hid hk1
  have HO1 := Lib.hid (own_mono ho1 hz0)
  have hn1 : n1 ≤ 10 := by have := ho1.1; simp at this; omega
  have HB1 := Lib.hid (HB0.out.trans (hb1.mono hz0))
  clear hk1 ho1 hb1
  go_wp2_with fail
  clear d1
  refine (HV.out y _ H2.out).mono ?_; rintro e w2 ⟨A2, n2, c2, rfl, ho2, hb2⟩
  have hk2 := Blk.below (show Blk w1 w.heap.size 24 _ from HK1.out) hb2 (show Blk w1 w.heap.size 24 _ from HK1.out).lt
  have HK2 := Lib.hid hk2
  have HO2 := Lib.hid ho2
  have HO12 := Lib.hid (own_below HO1.out hb2)
  have hn2 : n2 ≤ 10 := by have := ho2.1; simp at this; omega
  have HB2 := Lib.hid (HB1.out.trans (hb2.mono HB1.out.size))
  clear hk2 ho2 hb2
  have hne2 := hk_ne HK2.out HO12.out (by decide)
  have HNE2 := Lib.hid hne2
  have hmx : n1 + n2 ≤ maxLen := by unfold maxLen; omega
  clear hne2
  go_wp2_with (at_builtin; refine wpList_app rfl (.tmp 7) (.tmp 10) _ rfl elemB rfl HO12.out rfl (Src.bytes (own_bytes HO2.out)) hmx (by omega) HB2.out.size ?_; intro A3 c3 w3 ho3 hg3 hat3; have hk3 := Blk.grown (show Blk w2 w.heap.size 24 _ from HK2.out) hg3 HNE2.out; have d2 := hk3.cell 2; have HK3 := Lib.hid hk3; have HO3 := Lib.hid ho3; have HB3 := Lib.hid (HB2.out.grown hg3 HB2.out.size (fun k hk => (HO12.out.lt k hk).1)); clear hk3 ho3 hg3 hat3)
  clear d2
  refine (HV.out z _ H3.out).mono ?_; rintro e w4 ⟨A4, n4, c4, rfl, ho4, hb4⟩
  have HO4 := Lib.hid ho4
  have HO34 := Lib.hid (own_below HO3.out hb4)
  have hn4 : n4 ≤ 10 := by have := ho4.1; simp at this; omega
  have HB4 := Lib.hid (HB3.out.trans (hb4.mono HB3.out.size))
  have hmx2 : n1 + n2 + n4 ≤ maxLen := by unfold maxLen; omega
  clear ho4 hb4
  go_wp2_with (at_builtin; refine wpList_app rfl (.tmp 12) (.tmp 15) _ rfl elemB rfl HO34.out rfl (Src.bytes (own_bytes HO4.out)) hmx2 (by omega) HB4.out.size ?_; intro A5 c5 w5 ho5 hg5 hat5; have HO5 := Lib.hid ho5; have HB5 := Lib.hid (HB4.out.grown hg5 HB4.out.size (fun k hk => (HO34.out.lt k hk).1)); clear ho5 hg5 hat5)
  go_ret
  refine ⟨A5, n1 + n2 + n4, c5, rfl, ?_, HB5.out⟩
  have := HO5.out
  unfold sbytes
  rw [List.map_append, List.map_append]
  exact this
end Go.Proofs.Ytkhomkklamegmaa
