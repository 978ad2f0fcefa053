/- The reference's reader of a number. -/
import Derived.Test.YtmdgmnaaopineaaVarG
import Derived.Test.YtmdgmnaaopineaaStep
import Derived.Deep.DeepCutAuto
import Derived.Deep.CutBlock
namespace Go.Proofs.Ytmdgmnaaopineaa
open Go.ChangeShapes Go.WideShapes Go.ChangeAt Go.RowKit
set_option linter.unusedVariables false
/-- What a reading of a reader as a value gives: the reader behind it, and the number. -/
abbrev rnV (A : Option Addr) (n c : Nat) (r : Nat × Nat × Flt) : Value := .tuple #[.agg (rdV A n c r.2.1 r.2.2), .int .u64 (r.1 : Int)]
theorem vgo_q (l : List UInt8) (p : Nat) : ∀ (k n x : Nat), (vgo l p k n x).2.1 ≤ p + n + k
  | 0, n, x => Nat.le_refl _
  | k + 1, n, x => by
    unfold vgo
    split
    · simp only; omega
    · split
      · simp only; omega
      · split
        · simp only; omega
        · split
          · exact Nat.le_trans (vgo_q l p k _ _) (by omega)
          · simp only; omega
theorem vgo_at0 (l : List UInt8) (p : Nat) : ∀ (k n x : Nat), 0 ≤ (vgo l p k n x).2.2.2
  | 0, n, x => Int.le_refl _
  | k + 1, n, x => by
    unfold vgo
    split
    · simp only; omega
    · split
      · simp only; omega
      · split
        · simp only; omega
        · split
          · exact vgo_at0 l p k _ _
          · simp only; omega
set_option maxRecDepth 100000 in
set_option maxHeartbeats 1000000 in
theorem rread_any {D : Dom} {A : Option Addr} {n c : Nat} {l : List UInt8} {p : Nat} {f : Flt} {w : World} (h : rpU8.sl w D A n c l) (hD : ∀ k, D k → k < w.heap.size) (hf : OkF f) (hp : p ≤ n) (hn : n ≤ 1000000000) :
    Calls Try.prog 96 #[.agg (rdV A n c p f)] w fun e w' => e = .returned (rnV A n c (vrdF l p f)) ∧ Below w.heap.size w w' := by
  have H : Hid ((Try.prog.info? 71).map (·.size) = some 4) := by unfold Hid; kernel_rfl
  by_cases h0 : f.1 = 0
  case neg =>
    rw [vrdF_bad h0]
    have hq : (f.1 != 0) = true := by simpa using h0
    clear h
    go_enter Try.func96, Try.ntmps96
    go_wp2_with fail
    have hblk := cblk_top w (rdV A n c p f) (rdV A n c p f) 71 71
    refine bodyPost_ret (v := rnV A n c (0, p, f)) (by simp [results, Try.results96, go_sem]) rfl ⟨rfl, cbelow_two _ _ _⟩
  case pos =>
    rw [vrdF_good h0]
    have hq : (f.1 != 0) = false := by simpa using h0
    obtain ⟨hlen, hnc, hcm⟩ := Rp.sl_len h
    unfold maxLen at hcm
    obtain ⟨A', hcut, hsl2⟩ := run_cut_l elemU h rfl (p : Int) (by omega) (by omega)
    rw [Int.toNat_natCast] at hcut hsl2
    obtain rfl := hf.eq h0
    have hvd := vgo_drop l p (by omega) 10 0 0 (by omega)
    have hf0 := vgo_fail0 (l.drop p) 0 10 0 0
    have hz := (cbelow_two w (.cells (rdV A n c p (0, 0)) 71) (.cells rdZ 71))
    have hget := rget_any (Rp.sl_below hsl2 hz hD) (fun k hk => by have := hD k hk; simp; omega) (by omega)
    have hlt := vrd_lt (l.drop p) 0
    have hqle : (vrd (l.drop p) 0).2.1 ≤ 10 := vgo_q _ _ _ _ _
    have hokf := vgo_ok (l.drop p) 0 10 0 0
    have hat0 := vgo_at0 (l.drop p) 0 10 0 0
    unfold vrd at hget hlt hqle ⊢
    generalize vgo (l.drop p) 0 10 0 0 = G at *
    obtain ⟨x, q, f'⟩ := G
    obtain ⟨C1, F2⟩ := f'
    obtain ⟨hv1, hv2, hv3⟩ := hvd
    simp only at hv1 hv2 hv3 hf0 hlt hqle hokf hat0
    rw [hv1]
    have HK := Lib.hid ((Blk.new w 71 (rdV A n c p (0, 0))).alloc (.cells rdZ 71))
    have HR := Lib.hid (cblk_top w (rdV A n c p (0, 0)) rdZ 71 71)
    have HZ := Lib.hid hz
    have HGET := Lib.hid hget
    have HL := Lib.hid hlen
    clear hget hz hv1 h hf hlen
    rcases (show C1 = 0 ∨ C1 = 1 ∨ (C1 ≠ 0 ∧ C1 ≠ 1) by omega) with hc | hc | ⟨hc, hc1⟩
    · subst hc
      obtain rfl : F2 = 0 := by have := hokf.eq rfl; injection this
      clear hv2 hv3 hf0 hokf
      go_enter Try.func96, Try.ntmps96
      go_wp2_with fail
      refine HGET.out.mono ?_; rintro e w1 ⟨rfl, hb1⟩
      have hk1 := HK.out.below hb1 HK.out.lt
      have d0 := hk1.cell 0
      have d1 := hk1.cell 1
      have d2 := hk1.cell 2
      have d3 := hk1.cell 3
      have f1 := hk1.frozen 1
      have f2 := hk1.frozen 2
      have f3 := hk1.frozen 3
      have HK1 := Lib.hid hk1
      have HR1 := Lib.hid (HR.out.below hb1 HR.out.lt)
      have HB1 := Lib.hid (HZ.out.trans (hb1.mono (by simp; omega)))
      have hl1 := hk1.lt
      clear hk1 hb1
      go_wp2_with (refine wpList_put_row rfl 71 (.tmp 2) (.tmp 30) rfl (w.heap.size + 1) (rdV A n c ((p : Int) + q) (0, 0)) rfl rfl 71 _ ((HR1.out.far (p := ⟨w.heap.size, 1, none⟩) (by simp) _).alloc _) H.out rfl (by simp [Value.oneCell']) ?_; intro w3 hblk hgr)
      have hbz : Below w.heap.size w w3 := ((HB1.out.setCell (p := ⟨w.heap.size, 1, none⟩) (Nat.le_refl _) _).alloc (by have := HB1.out.size; simp; omega) _).grown hgr (by have := HB1.out.size; simp; omega) (fun k hk => by injection hk with hk; omega)
      have e0 := hblk.cell 0
      have e1 := hblk.cell 1
      have e2 := hblk.cell 2
      have e3 := hblk.cell 3
      refine bodyPost_ret (v := rnV A n c (x, p + q, (0, 0))) (by simp [results, Try.results96, go_sem, e0, e1, e2, e3]) rfl ⟨rfl, hbz⟩
    · subst hc
      have HPQ := Lib.hid (hv2 rfl)
      obtain rfl : x = 0 := hf0 (by decide)
      clear hv2 hv3 hf0 hokf
      go_enter Try.func96, Try.ntmps96
      go_wp2_with fail
      refine HGET.out.mono ?_; rintro e w1 ⟨rfl, hb1⟩
      have hk1 := HK.out.below hb1 HK.out.lt
      have d0 := hk1.cell 0
      have d1 := hk1.cell 1
      have d2 := hk1.cell 2
      have d3 := hk1.cell 3
      have f1 := hk1.frozen 1
      have f2 := hk1.frozen 2
      have f3 := hk1.frozen 3
      have HK1 := Lib.hid hk1
      have HR1 := Lib.hid (HR.out.below hb1 HR.out.lt)
      have HB1 := Lib.hid (HZ.out.trans (hb1.mono (by simp; omega)))
      have hl1 := hk1.lt
      clear hk1 hb1
      go_wp2_with fail
      refine (rat_any 1 _ _).mono ?_; rintro e w2 ⟨rfl, hb2⟩
      rw [failF_set rfl (by decide)]
      have hk2 : Blk w2 w.heap.size 71 (rdV A n c ((n : Int)) (0, 0)) := ((HK1.out.put 1 (.int .i64 ((n : Int)))).alloc (.cells #[.int .i64 1, .int .i64 F2] 40)).below hb2 ((HK1.out.put 1 _).alloc _).lt
      have g0 := hk2.cell 0
      have g1 := hk2.cell 1
      have g2 := hk2.cell 2
      have g3 := hk2.cell 3
      have gf1 := hk2.frozen 1
      have gf2 := hk2.frozen 2
      have gf3 := hk2.frozen 3
      have hr2 := ((HR1.out.far (p := ⟨w.heap.size, 1, none⟩) (by simp) (.int .i64 ((n : Int)))).alloc (.cells #[.int .i64 1, .int .i64 F2] 40)).below hb2 ((HR1.out.far (p := ⟨w.heap.size, 1, none⟩) (by simp) _).alloc _).lt
      have ht2 := (Blk.new (w1.setCell ⟨w.heap.size, 1, none⟩ (.int .i64 ((n : Int)))) 40 #[.int .i64 1, .int .i64 F2]).below hb2 (Blk.new _ _ _).lt
      have t0 : w2.cell? ⟨w1.heap.size, 0, none⟩ = some (.int .i64 1) := by have := ht2.cell 0; simpa using this
      have t1 : w2.cell? ⟨w1.heap.size, 1, none⟩ = some (.int .i64 F2) := by have := ht2.cell 1; simpa using this
      have hb02 := ((HB1.out.setCell (p := ⟨w.heap.size, 1, none⟩) (Nat.le_refl _) (.int .i64 ((n : Int)))).alloc (by have := HB1.out.size; simp; omega) (.cells #[.int .i64 1, .int .i64 F2] 40)).trans (hb2.mono (by have := HB1.out.size; simp; omega))
      have HK2 := Lib.hid hk2
      have HR2 := Lib.hid hr2
      have HB2 := Lib.hid hb02
      clear hk2 hr2 ht2 hb02 hb2
      go_wp2_with (refine wpList_put_row rfl 71 (.tmp 2) (.tmp 60) rfl (w.heap.size + 1) (rdV A n c ((n : Int)) (1, (n : Int))) rfl rfl 71 _ ((HR2.out.far (p := ⟨w.heap.size, 2, none⟩) (by simp) _).far (p := ⟨w.heap.size, 3, none⟩) (by simp) _) H.out rfl (by simp [Value.oneCell']) ?_; intro w3 hblk hgr)
      have hbz : Below w.heap.size w w3 := ((HB2.out.setCell (p := ⟨w.heap.size, 2, none⟩) (Nat.le_refl _) _).setCell (p := ⟨w.heap.size, 3, none⟩) (Nat.le_refl _) _).grown hgr (by have := HB2.out.size; simp; omega) (fun k hk => by injection hk with hk; omega)
      have e0 := hblk.cell 0
      have e1 := hblk.cell 1
      have e2 := hblk.cell 2
      have e3 := hblk.cell 3
      refine bodyPost_ret (v := rnV A n c (0, n, (1, (n : Int)))) (by simp [results, Try.results96, go_sem, e0, e1, e2, e3]) rfl ⟨?_, hbz⟩
      rw [HL.out] at HPQ ⊢
      rw [HPQ.out]
    · obtain rfl : x = 0 := hf0 hc
      have hq3 := hv3 hc hc1
      obtain ⟨m, rfl⟩ : ∃ m, q = m + 1 := ⟨q - 1, by omega⟩
      obtain rfl : F2 = (m : Int) := by omega
      have hn0 : (C1 == 0) = false := by simpa using hc
      have hn1 : (C1 == 1) = false := by simpa using hc1
      have hn2 : (C1 != 1) = true := by simpa using hc1
      have HC := Lib.hid hc
      have HC1 := Lib.hid hc1
      clear hv2 hv3 hf0 hokf hq3 hc hc1
      go_enter Try.func96, Try.ntmps96
      go_wp2_with fail
      refine HGET.out.mono ?_; rintro e w1 ⟨rfl, hb1⟩
      have hk1 := HK.out.below hb1 HK.out.lt
      have d0 := hk1.cell 0
      have d1 := hk1.cell 1
      have d2 := hk1.cell 2
      have d3 := hk1.cell 3
      have f1 := hk1.frozen 1
      have f2 := hk1.frozen 2
      have f3 := hk1.frozen 3
      have HK1 := Lib.hid hk1
      have HR1 := Lib.hid (HR.out.below hb1 HR.out.lt)
      have HB1 := Lib.hid (HZ.out.trans (hb1.mono (by simp; omega)))
      have hl1 := hk1.lt
      clear hk1 hb1
      go_wp2_with fail
      refine (rat_any C1 _ _).mono ?_; rintro e w2 ⟨rfl, hb2⟩
      rw [failF_set rfl HC.out]
      have hk2 : Blk w2 w.heap.size 71 (rdV A n c ((p : Int) + m + 1) (0, 0)) := ((HK1.out.put 1 (.int .i64 ((p : Int) + m + 1))).alloc (.cells #[.int .i64 C1, .int .i64 (m : Int)] 40)).below hb2 ((HK1.out.put 1 _).alloc _).lt
      have g0 := hk2.cell 0
      have g1 := hk2.cell 1
      have g2 := hk2.cell 2
      have g3 := hk2.cell 3
      have gf1 := hk2.frozen 1
      have gf2 := hk2.frozen 2
      have gf3 := hk2.frozen 3
      have hr2 := ((HR1.out.far (p := ⟨w.heap.size, 1, none⟩) (by simp) (.int .i64 ((p : Int) + m + 1))).alloc (.cells #[.int .i64 C1, .int .i64 (m : Int)] 40)).below hb2 ((HR1.out.far (p := ⟨w.heap.size, 1, none⟩) (by simp) _).alloc _).lt
      have ht2 := (Blk.new (w1.setCell ⟨w.heap.size, 1, none⟩ (.int .i64 ((p : Int) + m + 1))) 40 #[.int .i64 C1, .int .i64 (m : Int)]).below hb2 (Blk.new _ _ _).lt
      have t0 : w2.cell? ⟨w1.heap.size, 0, none⟩ = some (.int .i64 C1) := by have := ht2.cell 0; simpa using this
      have t1 : w2.cell? ⟨w1.heap.size, 1, none⟩ = some (.int .i64 (m : Int)) := by have := ht2.cell 1; simpa using this
      have hb02 := ((HB1.out.setCell (p := ⟨w.heap.size, 1, none⟩) (Nat.le_refl _) (.int .i64 ((p : Int) + m + 1))).alloc (by have := HB1.out.size; simp; omega) (.cells #[.int .i64 C1, .int .i64 (m : Int)] 40)).trans (hb2.mono (by have := HB1.out.size; simp; omega))
      have HK2 := Lib.hid hk2
      have HR2 := Lib.hid hr2
      have HB2 := Lib.hid hb02
      clear hk2 hr2 ht2 hb02 hb2
      go_upto_region 13 with (fail)
      have HK4 := Lib.hid ((((show Blk _ _ _ _ from HK2.out).put 2 (.int .i64 C1)).put 3 (.int .i64 ((p : Int) + m + 1))).put 3 (.int .i64 ((p : Int) + m)))
      have HR4 := Lib.hid (((HR2.out.far (p := ⟨w.heap.size, 2, none⟩) (by simp) (.int .i64 C1)).far (p := ⟨w.heap.size, 3, none⟩) (by simp) (.int .i64 ((p : Int) + m + 1))).far (p := ⟨w.heap.size, 3, none⟩) (by simp) (.int .i64 ((p : Int) + m)))
      have HB4 := Lib.hid (((HB2.out.setCell (p := ⟨w.heap.size, 2, none⟩) (Nat.le_refl _) (.int .i64 C1)).setCell (p := ⟨w.heap.size, 3, none⟩) (Nat.le_refl _) (.int .i64 ((p : Int) + m + 1))).setCell (p := ⟨w.heap.size, 3, none⟩) (Nat.le_refl _) (.int .i64 ((p : Int) + m)))
      clear g0 g1 g2 g3 gf1 gf2 gf3 t0 t1
      generalize World.setCell (World.setCell (World.setCell w2 _ _) _ _) _ _ = w4 at *
      have HK4' : Hid (Blk w4 w.heap.size 71 (rdV A n c ((p : Int) + m + 1) (C1, (p : Int) + m))) := HK4.out
      have hk4 := (show Blk w4 _ _ _ from HK4'.out)
      have g0 := hk4.cell 0
      have g1 := hk4.cell 1
      have g2 := hk4.cell 2
      have g3 := hk4.cell 3
      clear hk4
      go_wp2_with (refine wpList_put_row rfl 71 (.tmp 2) (.tmp 60) rfl (w.heap.size + 1) (rdV A n c ((p : Int) + m + 1) (C1, (p : Int) + m)) rfl rfl 71 _ HR4.out H.out rfl (by simp [Value.oneCell']) ?_; intro w3 hblk hgr)
      have hbz : Below w.heap.size w w3 := HB4.out.grown hgr HB4.out.size (fun k hk => by injection hk with hk; omega)
      have e0 := hblk.cell 0
      have e1 := hblk.cell 1
      have e2 := hblk.cell 2
      have e3 := hblk.cell 3
      refine bodyPost_ret (v := .tuple #[.agg (rdV A n c ((p : Int) + m + 1) (C1, (p : Int) + m)), .int .u64 0]) (by simp [results, Try.results96, go_sem, e0, e1, e2, e3]) rfl ⟨?_, hbz⟩
      have e4 : ((p + (m + 1) : Nat) : Int) = (p : Int) + m + 1 := by omega
      show _ = Ending.returned (Value.tuple #[Value.agg (rdV A n c ((p + (m + 1) : Nat) : Int) (C1, (p : Int) + m)), Value.int .u64 ((0 : Nat) : Int)])
      rw [e4]
      rfl
end Go.Proofs.Ytmdgmnaaopineaa
