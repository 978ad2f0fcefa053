/-
  The law of this claim, part 3 of its proof: the parts VarQ, VarP, VarS, Pen, Pen2, Keep, U64, StrR, Put, StrS.
-/
import Derived.Deep.DeepCutAuto
import Derived.Deep.CutBlock
import Derived.Test.YtmdgmnaaopineaaRows
import Derived.Test.YtmdgmnaaopineaaQGrows2
/- The reference's reader of a number. -/
namespace Go.Proofs.Ytmdgmnaaopineaa
open Go.ChangeShapes Go.WideShapes Go.ChangeAt Go.RowKit
set_option linter.unusedVariables false
/-- What a reading of a reader as a value gives: the reader behind it, and the number. -/
abbrev rnV (A : Option Addr) (n c : Nat) (r : Nat × Nat × Flt) : Value := .tuple #[.agg (rdV A n c r.2.1 r.2.2), .int .u64 (r.1 : Int)]
theorem vgo_q (l : List UInt8) (p : Nat) : ∀ (k n x : Nat), (vgo l p k n x).2.1 ≤ p + n + k
  | 0, n, x => Nat.le_refl _
  | k + 1, n, x => by
    unfold vgo
    split
    · simp only; omega
    · split
      · simp only; omega
      · split
        · simp only; omega
        · split
          · exact Nat.le_trans (vgo_q l p k _ _) (by omega)
          · simp only; omega
theorem vgo_at0 (l : List UInt8) (p : Nat) : ∀ (k n x : Nat), 0 ≤ (vgo l p k n x).2.2.2
  | 0, n, x => Int.le_refl _
  | k + 1, n, x => by
    unfold vgo
    split
    · simp only; omega
    · split
      · simp only; omega
      · split
        · simp only; omega
        · split
          · exact vgo_at0 l p k _ _
          · simp only; omega
set_option maxRecDepth 100000 in
set_option maxHeartbeats 1000000 in
theorem rread_any {D : Dom} {A : Option Addr} {n c : Nat} {l : List UInt8} {p : Nat} {f : Flt} {w : World} (h : rpU8.sl w D A n c l) (hD : ∀ k, D k → k < w.heap.size) (hf : OkF f) (hp : p ≤ n) (hn : n ≤ 1000000000) :
    Calls Try.prog 96 #[.agg (rdV A n c p f)] w fun e w' => e = .returned (rnV A n c (vrdF l p f)) ∧ Below w.heap.size w w' := by
  have H : Hid ((Try.prog.info? 71).map (·.size) = some 4) := by unfold Hid; kernel_rfl
  by_cases h0 : f.1 = 0
  case neg =>
    rw [vrdF_bad h0]
    have hq : (f.1 != 0) = true := by simpa using h0
    clear h
    go_enter Try.func96, Try.ntmps96
    go_wp2_with fail
    have hblk := cblk_top w (rdV A n c p f) (rdV A n c p f) 71 71
    refine bodyPost_ret (v := rnV A n c (0, p, f)) (by simp [results, Try.results96, go_sem]) rfl ⟨rfl, cbelow_two _ _ _⟩
  case pos =>
    rw [vrdF_good h0]
    have hq : (f.1 != 0) = false := by simpa using h0
    obtain ⟨hlen, hnc, hcm⟩ := Rp.sl_len h
    unfold maxLen at hcm
    obtain ⟨A', hcut, hsl2⟩ := run_cut_l elemU h rfl (p : Int) (by omega) (by omega)
    rw [Int.toNat_natCast] at hcut hsl2
    obtain rfl := hf.eq h0
    have hvd := vgo_drop l p (by omega) 10 0 0 (by omega)
    have hf0 := vgo_fail0 (l.drop p) 0 10 0 0
    have hz := (cbelow_two w (.cells (rdV A n c p (0, 0)) 71) (.cells rdZ 71))
    have hget := rget_any (Rp.sl_below hsl2 hz hD) (fun k hk => by have := hD k hk; simp; omega) (by omega)
    have hlt := vrd_lt (l.drop p) 0
    have hqle : (vrd (l.drop p) 0).2.1 ≤ 10 := vgo_q _ _ _ _ _
    have hokf := vgo_ok (l.drop p) 0 10 0 0
    have hat0 := vgo_at0 (l.drop p) 0 10 0 0
    unfold vrd at hget hlt hqle ⊢
    generalize vgo (l.drop p) 0 10 0 0 = G at *
    obtain ⟨x, q, f'⟩ := G
    obtain ⟨C1, F2⟩ := f'
    obtain ⟨hv1, hv2, hv3⟩ := hvd
    simp only at hv1 hv2 hv3 hf0 hlt hqle hokf hat0
    rw [hv1]
    have HK := Lib.hid ((Blk.new w 71 (rdV A n c p (0, 0))).alloc (.cells rdZ 71))
    have HR := Lib.hid (cblk_top w (rdV A n c p (0, 0)) rdZ 71 71)
    have HZ := Lib.hid hz
    have HGET := Lib.hid hget
    have HL := Lib.hid hlen
    clear hget hz hv1 h hf hlen
    rcases (show C1 = 0 ∨ C1 = 1 ∨ (C1 ≠ 0 ∧ C1 ≠ 1) by omega) with hc | hc | ⟨hc, hc1⟩
    · subst hc
      obtain rfl : F2 = 0 := by have := hokf.eq rfl; injection this
      clear hv2 hv3 hf0 hokf
      go_enter Try.func96, Try.ntmps96
      go_wp2_with fail
      refine HGET.out.mono ?_; rintro e w1 ⟨rfl, hb1⟩
      have hk1 := HK.out.below hb1 HK.out.lt
      have d0 := hk1.cell 0
      have d1 := hk1.cell 1
      have d2 := hk1.cell 2
      have d3 := hk1.cell 3
      have f1 := hk1.frozen 1
      have f2 := hk1.frozen 2
      have f3 := hk1.frozen 3
      have HK1 := Lib.hid hk1
      have HR1 := Lib.hid (HR.out.below hb1 HR.out.lt)
      have HB1 := Lib.hid (HZ.out.trans (hb1.mono (by simp; omega)))
      have hl1 := hk1.lt
      clear hk1 hb1
      go_wp2_with (refine wpList_put_row rfl 71 (.tmp 2) (.tmp 30) rfl (w.heap.size + 1) (rdV A n c ((p : Int) + q) (0, 0)) rfl rfl 71 _ ((HR1.out.far (p := ⟨w.heap.size, 1, none⟩) (by simp) _).alloc _) H.out rfl (by simp [Value.oneCell']) ?_; intro w3 hblk hgr)
      have hbz : Below w.heap.size w w3 := ((HB1.out.setCell (p := ⟨w.heap.size, 1, none⟩) (Nat.le_refl _) _).alloc (by have := HB1.out.size; simp; omega) _).grown hgr (by have := HB1.out.size; simp; omega) (fun k hk => by injection hk with hk; omega)
      have e0 := hblk.cell 0
      have e1 := hblk.cell 1
      have e2 := hblk.cell 2
      have e3 := hblk.cell 3
      refine bodyPost_ret (v := rnV A n c (x, p + q, (0, 0))) (by simp [results, Try.results96, go_sem, e0, e1, e2, e3]) rfl ⟨rfl, hbz⟩
    · subst hc
      have HPQ := Lib.hid (hv2 rfl)
      obtain rfl : x = 0 := hf0 (by decide)
      clear hv2 hv3 hf0 hokf
      go_enter Try.func96, Try.ntmps96
      go_wp2_with fail
      refine HGET.out.mono ?_; rintro e w1 ⟨rfl, hb1⟩
      have hk1 := HK.out.below hb1 HK.out.lt
      have d0 := hk1.cell 0
      have d1 := hk1.cell 1
      have d2 := hk1.cell 2
      have d3 := hk1.cell 3
      have f1 := hk1.frozen 1
      have f2 := hk1.frozen 2
      have f3 := hk1.frozen 3
      have HK1 := Lib.hid hk1
      have HR1 := Lib.hid (HR.out.below hb1 HR.out.lt)
      have HB1 := Lib.hid (HZ.out.trans (hb1.mono (by simp; omega)))
      have hl1 := hk1.lt
      clear hk1 hb1
      go_wp2_with fail
      refine (rat_any 1 _ _).mono ?_; rintro e w2 ⟨rfl, hb2⟩
      rw [failF_set rfl (by decide)]
      have hk2 : Blk w2 w.heap.size 71 (rdV A n c ((n : Int)) (0, 0)) := ((HK1.out.put 1 (.int .i64 ((n : Int)))).alloc (.cells #[.int .i64 1, .int .i64 F2] 40)).below hb2 ((HK1.out.put 1 _).alloc _).lt
      have g0 := hk2.cell 0
      have g1 := hk2.cell 1
      have g2 := hk2.cell 2
      have g3 := hk2.cell 3
      have gf1 := hk2.frozen 1
      have gf2 := hk2.frozen 2
      have gf3 := hk2.frozen 3
      have hr2 := ((HR1.out.far (p := ⟨w.heap.size, 1, none⟩) (by simp) (.int .i64 ((n : Int)))).alloc (.cells #[.int .i64 1, .int .i64 F2] 40)).below hb2 ((HR1.out.far (p := ⟨w.heap.size, 1, none⟩) (by simp) _).alloc _).lt
      have ht2 := (Blk.new (w1.setCell ⟨w.heap.size, 1, none⟩ (.int .i64 ((n : Int)))) 40 #[.int .i64 1, .int .i64 F2]).below hb2 (Blk.new _ _ _).lt
      have t0 : w2.cell? ⟨w1.heap.size, 0, none⟩ = some (.int .i64 1) := by have := ht2.cell 0; simpa using this
      have t1 : w2.cell? ⟨w1.heap.size, 1, none⟩ = some (.int .i64 F2) := by have := ht2.cell 1; simpa using this
      have hb02 := ((HB1.out.setCell (p := ⟨w.heap.size, 1, none⟩) (Nat.le_refl _) (.int .i64 ((n : Int)))).alloc (by have := HB1.out.size; simp; omega) (.cells #[.int .i64 1, .int .i64 F2] 40)).trans (hb2.mono (by have := HB1.out.size; simp; omega))
      have HK2 := Lib.hid hk2
      have HR2 := Lib.hid hr2
      have HB2 := Lib.hid hb02
      clear hk2 hr2 ht2 hb02 hb2
      go_wp2_with (refine wpList_put_row rfl 71 (.tmp 2) (.tmp 60) rfl (w.heap.size + 1) (rdV A n c ((n : Int)) (1, (n : Int))) rfl rfl 71 _ ((HR2.out.far (p := ⟨w.heap.size, 2, none⟩) (by simp) _).far (p := ⟨w.heap.size, 3, none⟩) (by simp) _) H.out rfl (by simp [Value.oneCell']) ?_; intro w3 hblk hgr)
      have hbz : Below w.heap.size w w3 := ((HB2.out.setCell (p := ⟨w.heap.size, 2, none⟩) (Nat.le_refl _) _).setCell (p := ⟨w.heap.size, 3, none⟩) (Nat.le_refl _) _).grown hgr (by have := HB2.out.size; simp; omega) (fun k hk => by injection hk with hk; omega)
      have e0 := hblk.cell 0
      have e1 := hblk.cell 1
      have e2 := hblk.cell 2
      have e3 := hblk.cell 3
      refine bodyPost_ret (v := rnV A n c (0, n, (1, (n : Int)))) (by simp [results, Try.results96, go_sem, e0, e1, e2, e3]) rfl ⟨?_, hbz⟩
      rw [HL.out] at HPQ ⊢
      rw [HPQ.out]
    · obtain rfl : x = 0 := hf0 hc
      have hq3 := hv3 hc hc1
      obtain ⟨m, rfl⟩ : ∃ m, q = m + 1 := ⟨q - 1, by omega⟩
      obtain rfl : F2 = (m : Int) := by omega
      have hn0 : (C1 == 0) = false := by simpa using hc
      have hn1 : (C1 == 1) = false := by simpa using hc1
      have hn2 : (C1 != 1) = true := by simpa using hc1
      have HC := Lib.hid hc
      have HC1 := Lib.hid hc1
      clear hv2 hv3 hf0 hokf hq3 hc hc1
      go_enter Try.func96, Try.ntmps96
      go_wp2_with fail
      refine HGET.out.mono ?_; rintro e w1 ⟨rfl, hb1⟩
      have hk1 := HK.out.below hb1 HK.out.lt
      have d0 := hk1.cell 0
      have d1 := hk1.cell 1
      have d2 := hk1.cell 2
      have d3 := hk1.cell 3
      have f1 := hk1.frozen 1
      have f2 := hk1.frozen 2
      have f3 := hk1.frozen 3
      have HK1 := Lib.hid hk1
      have HR1 := Lib.hid (HR.out.below hb1 HR.out.lt)
      have HB1 := Lib.hid (HZ.out.trans (hb1.mono (by simp; omega)))
      have hl1 := hk1.lt
      clear hk1 hb1
      go_wp2_with fail
      refine (rat_any C1 _ _).mono ?_; rintro e w2 ⟨rfl, hb2⟩
      rw [failF_set rfl HC.out]
      have hk2 : Blk w2 w.heap.size 71 (rdV A n c ((p : Int) + m + 1) (0, 0)) := ((HK1.out.put 1 (.int .i64 ((p : Int) + m + 1))).alloc (.cells #[.int .i64 C1, .int .i64 (m : Int)] 40)).below hb2 ((HK1.out.put 1 _).alloc _).lt
      have g0 := hk2.cell 0
      have g1 := hk2.cell 1
      have g2 := hk2.cell 2
      have g3 := hk2.cell 3
      have gf1 := hk2.frozen 1
      have gf2 := hk2.frozen 2
      have gf3 := hk2.frozen 3
      have hr2 := ((HR1.out.far (p := ⟨w.heap.size, 1, none⟩) (by simp) (.int .i64 ((p : Int) + m + 1))).alloc (.cells #[.int .i64 C1, .int .i64 (m : Int)] 40)).below hb2 ((HR1.out.far (p := ⟨w.heap.size, 1, none⟩) (by simp) _).alloc _).lt
      have ht2 := (Blk.new (w1.setCell ⟨w.heap.size, 1, none⟩ (.int .i64 ((p : Int) + m + 1))) 40 #[.int .i64 C1, .int .i64 (m : Int)]).below hb2 (Blk.new _ _ _).lt
      have t0 : w2.cell? ⟨w1.heap.size, 0, none⟩ = some (.int .i64 C1) := by have := ht2.cell 0; simpa using this
      have t1 : w2.cell? ⟨w1.heap.size, 1, none⟩ = some (.int .i64 (m : Int)) := by have := ht2.cell 1; simpa using this
      have hb02 := ((HB1.out.setCell (p := ⟨w.heap.size, 1, none⟩) (Nat.le_refl _) (.int .i64 ((p : Int) + m + 1))).alloc (by have := HB1.out.size; simp; omega) (.cells #[.int .i64 C1, .int .i64 (m : Int)] 40)).trans (hb2.mono (by have := HB1.out.size; simp; omega))
      have HK2 := Lib.hid hk2
      have HR2 := Lib.hid hr2
      have HB2 := Lib.hid hb02
      clear hk2 hr2 ht2 hb02 hb2
      go_upto_region 13 with (fail)
      have HK4 := Lib.hid ((((show Blk _ _ _ _ from HK2.out).put 2 (.int .i64 C1)).put 3 (.int .i64 ((p : Int) + m + 1))).put 3 (.int .i64 ((p : Int) + m)))
      have HR4 := Lib.hid (((HR2.out.far (p := ⟨w.heap.size, 2, none⟩) (by simp) (.int .i64 C1)).far (p := ⟨w.heap.size, 3, none⟩) (by simp) (.int .i64 ((p : Int) + m + 1))).far (p := ⟨w.heap.size, 3, none⟩) (by simp) (.int .i64 ((p : Int) + m)))
      have HB4 := Lib.hid (((HB2.out.setCell (p := ⟨w.heap.size, 2, none⟩) (Nat.le_refl _) (.int .i64 C1)).setCell (p := ⟨w.heap.size, 3, none⟩) (Nat.le_refl _) (.int .i64 ((p : Int) + m + 1))).setCell (p := ⟨w.heap.size, 3, none⟩) (Nat.le_refl _) (.int .i64 ((p : Int) + m)))
      clear g0 g1 g2 g3 gf1 gf2 gf3 t0 t1
      generalize World.setCell (World.setCell (World.setCell w2 _ _) _ _) _ _ = w4 at *
      have HK4' : Hid (Blk w4 w.heap.size 71 (rdV A n c ((p : Int) + m + 1) (C1, (p : Int) + m))) := HK4.out
      have hk4 := (show Blk w4 _ _ _ from HK4'.out)
      have g0 := hk4.cell 0
      have g1 := hk4.cell 1
      have g2 := hk4.cell 2
      have g3 := hk4.cell 3
      clear hk4
      go_wp2_with (refine wpList_put_row rfl 71 (.tmp 2) (.tmp 60) rfl (w.heap.size + 1) (rdV A n c ((p : Int) + m + 1) (C1, (p : Int) + m)) rfl rfl 71 _ HR4.out H.out rfl (by simp [Value.oneCell']) ?_; intro w3 hblk hgr)
      have hbz : Below w.heap.size w w3 := HB4.out.grown hgr HB4.out.size (fun k hk => by injection hk with hk; omega)
      have e0 := hblk.cell 0
      have e1 := hblk.cell 1
      have e2 := hblk.cell 2
      have e3 := hblk.cell 3
      refine bodyPost_ret (v := .tuple #[.agg (rdV A n c ((p : Int) + m + 1) (C1, (p : Int) + m)), .int .u64 0]) (by simp [results, Try.results96, go_sem, e0, e1, e2, e3]) rfl ⟨?_, hbz⟩
      have e4 : ((p + (m + 1) : Nat) : Int) = (p : Int) + m + 1 := by omega
      show _ = Ending.returned (Value.tuple #[Value.agg (rdV A n c ((p + (m + 1) : Nat) : Int) (C1, (p : Int) + m)), Value.int .u64 ((0 : Nat) : Int)])
      rw [e4]
      rfl
end Go.Proofs.Ytmdgmnaaopineaa
/- The program's readers of numbers, whatever the fault. -/
namespace Go.Proofs.Ytmdgmnaaopineaa
open Go.ChangeShapes Go.WideShapes Go.ChangeAt Go.RowKit
set_option linter.unusedVariables false
section
variable {w : World} {D : Dom} {g : Nat} {l : List UInt8} {p : Nat} {f : Flt}
theorem vread_any (h : Rd w D g l p f) (hf : OkF f) (hl : l.length ≤ 1000000000) : Calls Try.prog 92 #[.pointer (some ⟨g, 0, none⟩)] w fun e w' => e = .returned (.int .u64 ((vrdF l p f).1 : Int)) ∧ Rd w' D g l (vrdF l p f).2.1 (vrdF l p f).2.2 ∧ Chg (one g) w w' := by
  by_cases h0 : f.1 = 0
  · obtain rfl := hf.eq h0
    rw [vrdF_good rfl]
    exact vread_at h hl
  · rw [vrdF_bad h0]
    refine (vread_bad h h0).mono ?_
    rintro e w1 ⟨rfl, hb⟩
    exact ⟨rfl, h.below hb, Chg.of_pure hb _⟩
set_option maxRecDepth 100000 in
theorem vmost_any (h : Rd w D g l p f) (hf : OkF f) (hl : l.length ≤ 1000000000) (m : Nat) : Calls Try.prog 140 #[.pointer (some ⟨g, 0, none⟩), .int .u64 (m : Int)] w fun e w' => e = .returned (.int .u64 ((mostF l p f m).1 : Int)) ∧ Rd w' D g l (mostF l p f m).2.1 (mostF l p f m).2.2 ∧ Chg (one g) w w' := by
  have HA := Lib.hid (cat_at h)
  have HV := Lib.hid (vread_any h hf hl)
  unfold mostF
  generalize vrdF l p f = r at *
  obtain ⟨x, q, f'⟩ := r
  simp only at HV ⊢
  by_cases hx : m < x
  · rw [if_pos hx]
    have hd : decide (m < x) = true := by simpa using hx
    clear h hx
    go_enter Try.func140, Try.ntmps140
    go_wp2_with fail
    refine HA.out.mono ?_; rintro e w1 ⟨rfl, rfl⟩
    go_wp2_with fail
    refine HV.out.mono ?_; rintro e w2 ⟨rfl, hr2, hc2⟩
    have HR2 := Lib.hid hr2
    have HC2 := Lib.hid hc2
    clear hr2 hc2
    go_wp2_with fail
    refine (cfail_at HR2.out _ _).mono ?_; rintro e w3 ⟨rfl, hr3, hc3⟩
    have HR3 := Lib.hid hr3
    have HC3 := Lib.hid (HC2.out.trans hc3)
    clear hr3 hc3
    go_wp2_with fail
    go_ret
    exact ⟨rfl, HR3.out, HC3.out⟩
  · rw [if_neg hx]
    have hd : decide (m < x) = false := by simp; omega
    clear h hx
    go_enter Try.func140, Try.ntmps140
    go_wp2_with fail
    refine HA.out.mono ?_; rintro e w1 ⟨rfl, rfl⟩
    go_wp2_with fail
    refine HV.out.mono ?_; rintro e w2 ⟨rfl, hr2, hc2⟩
    have HR2 := Lib.hid hr2
    have HC2 := Lib.hid hc2
    clear hr2 hc2
    go_wp2_with fail
    go_ret
    exact ⟨rfl, HR2.out, HC2.out⟩
theorem eright2_any (x : Nat) (w : World) : Calls Try.prog 90 #[.int .u64 (x : Int)] w fun e w' => e = .returned (.bool (decide (1 ≤ x) && decide (x < 4611686018427387904))) ∧ w = w' := by
  obtain ⟨b, hb⟩ : ∃ b, b = decide (x < 4611686018427387904) := ⟨_, rfl⟩
  obtain ⟨c, hc⟩ : ∃ c, c = decide (1 ≤ x) := ⟨_, rfl⟩
  rw [← hb, ← hc]
  have hd : decide ((1 : Int) ≤ (x : Int)) = c := by rw [hc]; apply decide_eq_decide.2; omega
  have hd2 : decide ((x : Int) < 4611686018427387904) = b := by rw [hb]; apply decide_eq_decide.2; omega
  clear hb hc
  cases c
  all_goals
    go_enter Try.func90, Try.ntmps90
    go_wp2_with fail
    go_ret
    exact ⟨rfl, rfl⟩
set_option maxRecDepth 100000 in
theorem eread_fn {K : Nat} {R : Nat → Bool} (hK : ∀ (x : Nat) (w : World), x < 18446744073709551616 → Calls Try.prog K #[.int .u64 (x : Int)] w fun e w' => e = .returned (.bool (R x)) ∧ w = w') (hrun : ∀ args w, Sem.run Try.prog (callFunc K args) w = .ok (.enter K args) w) (h : Rd w D g l p f) (hf : OkF f) (hl : l.length ≤ 1000000000) :
    Calls Try.prog 139 #[.pointer (some ⟨g, 0, none⟩), .func (.func K) #[] #[]] w fun e w' => e = .returned (.int .u64 ((mustF R l p f).1 : Int)) ∧ Rd w' D g l (mustF R l p f).2.1 (mustF R l p f).2.2 ∧ Chg (one g) w w' := by
  have HA := Lib.hid (cat_at h)
  have HV := Lib.hid (vread_any h hf hl)
  have HK := Lib.hid (hK (vrdF l p f).1)
  have hlt := vrdF_lt l p f
  have h0 := @vrdF_fail0 l p f
  have hok := @vrdF_ok l p f hf
  unfold mustF
  generalize vrdF l p f = r at *
  obtain ⟨x, q, f'⟩ := r
  simp only at HV HK h0 hlt hok ⊢
  have HLT := Lib.hid hlt
  have HRUN := Lib.hid hrun
  clear hrun
  by_cases hg : f'.1 = 0
  · rw [if_pos hg]
    obtain rfl := hok.eq hg
    clear hg hok h0 hlt
    cases hx : R x
    · rw [hx] at HK
      simp only [Bool.false_eq_true, if_false]
      have e : failF (0, 0) 3 p = (3, (p : Int)) := failF_set rfl (by decide)
      rw [e]
      clear h hx hK e
      go_enter Try.func139, Try.ntmps139
      go_wp2_with fail
      refine HA.out.mono ?_; rintro e w1 ⟨rfl, rfl⟩
      go_wp2_with fail
      refine HV.out.mono ?_; rintro e w2 ⟨rfl, hr2, hc2⟩
      have HR2 := Lib.hid hr2
      have HC2 := Lib.hid hc2
      clear hr2 hc2
      go_wp2_with fail
      rw [HRUN.out]; refine (HK.out _ HLT.out).mono ?_; rintro e w3 ⟨rfl, rfl⟩
      go_wp2_with fail
      refine (cfail_at HR2.out _ _).mono ?_; rintro e w3 ⟨rfl, hr3, hc3⟩
      have HR3 := Lib.hid hr3
      have HC3 := Lib.hid (HC2.out.trans hc3)
      clear hr3 hc3
      go_wp2_with fail
      refine (cgood_at HR3.out).mono ?_; rintro e w4 ⟨rfl, hb4⟩
      have HB4 := Lib.hid hb4
      clear hb4
      go_wp2_with fail
      go_ret
      exact ⟨rfl, HR3.out.below HB4.out, HC3.out.trans (Chg.of_pure HB4.out _)⟩
    · rw [hx] at HK
      simp only [if_true]
      clear h hx hK
      go_enter Try.func139, Try.ntmps139
      go_wp2_with fail
      refine HA.out.mono ?_; rintro e w1 ⟨rfl, rfl⟩
      go_wp2_with fail
      refine HV.out.mono ?_; rintro e w2 ⟨rfl, hr2, hc2⟩
      have HR2 := Lib.hid hr2
      have HC2 := Lib.hid hc2
      clear hr2 hc2
      go_wp2_with fail
      rw [HRUN.out]; refine (HK.out _ HLT.out).mono ?_; rintro e w3 ⟨rfl, rfl⟩
      go_wp2_with fail
      refine (cgood_at HR2.out).mono ?_; rintro e w4 ⟨rfl, hb4⟩
      have HB4 := Lib.hid hb4
      clear hb4
      go_wp2_with fail
      go_ret
      exact ⟨rfl, HR2.out.below HB4.out, HC2.out.trans (Chg.of_pure HB4.out _)⟩
  · rw [if_neg hg]
    obtain rfl := h0 hg
    have hq : (f'.1 == 0) = false := by simpa using hg
    have e : failF f' 3 p = f' := by unfold failF; rw [if_neg hg]
    clear hg hok h0 hlt h hK
    obtain ⟨b, hb⟩ : ∃ b, b = R 0 := ⟨_, rfl⟩
    rw [← hb] at HK
    clear hb
    have HE := Lib.hid e
    clear e
    cases b
    · go_enter Try.func139, Try.ntmps139
      go_wp2_with fail
      refine HA.out.mono ?_; rintro e w1 ⟨rfl, rfl⟩
      go_wp2_with fail
      refine HV.out.mono ?_; rintro e w2 ⟨rfl, hr2, hc2⟩
      have HR2 := Lib.hid hr2
      have HC2 := Lib.hid hc2
      clear hr2 hc2
      go_wp2_with fail
      rw [HRUN.out]; refine (HK.out _ HLT.out).mono ?_; rintro e w3 ⟨rfl, rfl⟩
      go_wp2_with fail
      refine (cfail_at HR2.out _ _).mono ?_; rintro e w3 ⟨rfl, hr3, hc3⟩
      rw [HE.out] at hr3
      have HR3 := Lib.hid hr3
      have HC3 := Lib.hid (HC2.out.trans hc3)
      clear hr3 hc3
      go_wp2_with fail
      refine (cgood_at HR3.out).mono ?_; rintro e w4 ⟨rfl, hb4⟩
      have HB4 := Lib.hid hb4
      clear hb4
      go_wp2_with fail
      go_ret
      exact ⟨rfl, HR3.out.below HB4.out, HC3.out.trans (Chg.of_pure HB4.out _)⟩
    · go_enter Try.func139, Try.ntmps139
      go_wp2_with fail
      refine HA.out.mono ?_; rintro e w1 ⟨rfl, rfl⟩
      go_wp2_with fail
      refine HV.out.mono ?_; rintro e w2 ⟨rfl, hr2, hc2⟩
      have HR2 := Lib.hid hr2
      have HC2 := Lib.hid hc2
      clear hr2 hc2
      go_wp2_with fail
      rw [HRUN.out]; refine (HK.out _ HLT.out).mono ?_; rintro e w3 ⟨rfl, rfl⟩
      go_wp2_with fail
      refine (cgood_at HR2.out).mono ?_; rintro e w4 ⟨rfl, hb4⟩
      have HB4 := Lib.hid hb4
      clear hb4
      go_wp2_with fail
      go_ret
      exact ⟨rfl, HR2.out.below HB4.out, HC2.out.trans (Chg.of_pure HB4.out _)⟩
def isEpoch (x : Nat) : Bool := decide (1 ≤ x) && decide (x < 4611686018427387904)
def isTail (x : Nat) : Bool := decide (x ≤ 4611686018427387904)
set_option maxRecDepth 100000 in
theorem eread_any (h : Rd w D g l p f) (hf : OkF f) (hl : l.length ≤ 1000000000) :
    Calls Try.prog 114 #[.pointer (some ⟨g, 0, none⟩)] w fun e w' => e = .returned (.int .u64 ((mustF isEpoch l p f).1 : Int)) ∧ Rd w' D g l (mustF isEpoch l p f).2.1 (mustF isEpoch l p f).2.2 ∧ Chg (one g) w w' := by
  have HE := Lib.hid (eread_fn (K := 90) (R := isEpoch) (fun x w _ => eright2_any x w) (fun args w => rfl) h hf hl)
  clear h hf hl
  go_enter Try.func114, Try.ntmps114
  go_wp2_with fail
  refine HE.out.mono ?_; rintro e w1 ⟨rfl, hr1, hc1⟩
  have HR1 := Lib.hid hr1
  have HC1 := Lib.hid hc1
  clear hr1 hc1
  go_wp2_with fail
  go_ret
  exact ⟨rfl, HR1.out, HC1.out⟩
end
end Go.Proofs.Ytmdgmnaaopineaa
/- The reference's numbers with a bound, and those that must be right. -/
namespace Go.Proofs.Ytmdgmnaaopineaa
open Go.ChangeShapes Go.WideShapes Go.ChangeAt Go.RowKit
set_option linter.unusedVariables false
def isPos (x : Nat) : Bool := decide (x < 4611686018427387904)
theorem rr17_any (x : Nat) (w : World) : Calls Try.prog 87 #[.int .u64 (x : Int)] w fun e w' => e = .returned (.bool (isEpoch x)) ∧ w = w' := by
  unfold isEpoch
  obtain ⟨b, hb⟩ : ∃ b, b = decide (x < 4611686018427387904) := ⟨_, rfl⟩
  obtain ⟨c, hc⟩ : ∃ c, c = decide (1 ≤ x) := ⟨_, rfl⟩
  rw [← hb, ← hc]
  have hd : decide (0 < x) = c := by rw [hc]; apply decide_eq_decide.2; omega
  have hd2 : decide ((x : Int) ≤ 4611686018427387903) = b := by rw [hb]; apply decide_eq_decide.2; omega
  clear hb hc
  cases c
  all_goals
    go_enter Try.func87, Try.ntmps87
    go_wp2_with fail
    go_ret
    exact ⟨rfl, rfl⟩
theorem rp17_any (x : Nat) (w : World) : Calls Try.prog 33 #[.int .u64 (x : Int)] w fun e w' => e = .returned (.bool (isPos x)) ∧ w = w' := by
  unfold isPos
  obtain ⟨b, hb⟩ : ∃ b, b = decide (x < 4611686018427387904) := ⟨_, rfl⟩
  rw [← hb]
  have hd2 : decide ((x : Int) ≤ 4611686018427387903) = b := by rw [hb]; apply decide_eq_decide.2; omega
  clear hb
  go_enter Try.func33, Try.ntmps33
  go_wp2_with fail
  go_ret
  exact ⟨rfl, rfl⟩
section
variable {D : Dom} {A : Option Addr} {n c : Nat} {l : List UInt8} {p : Nat} {f : Flt} {w : World}
set_option maxRecDepth 100000 in
set_option maxHeartbeats 1000000 in
theorem rmost_any (h : rpU8.sl w D A n c l) (hD : ∀ k, D k → k < w.heap.size) (hf : OkF f) (hp : p ≤ n) (hn : n ≤ 1000000000) (m : Nat) :
    Calls Try.prog 138 #[.agg (rdV A n c p f), .int .u64 (m : Int)] w fun e w' => e = .returned (rnV A n c (mostF l p f m)) ∧ Below w.heap.size w w' := by
  have H : Hid ((Try.prog.info? 71).map (·.size) = some 4) := by unfold Hid; kernel_rfl
  have HRD : Hid (∀ w', Below w.heap.size w w' → Calls Try.prog 96 #[.agg (rdV A n c p f)] w' fun e w'' => e = .returned (rnV A n c (vrdF l p f)) ∧ Below w'.heap.size w' w'') := fun w' hb => rread_any (Rp.sl_below h hb hD) (fun k hk => Nat.lt_of_lt_of_le (hD k hk) hb.size) hf hp hn
  have hf0 := @vrdF_fail0 l p f
  unfold mostF
  generalize vrdF l p f = r at *
  obtain ⟨x, q, F1, F2⟩ := r
  simp only at hf0 ⊢
  have HZ := Lib.hid (cbelow_two w (.cells (rdV A n c p f) 71) (.cells rdZ 71))
  have HK := Lib.hid ((Blk.new w 71 (rdV A n c p f)).alloc (.cells rdZ 71))
  have HR := Lib.hid (cblk_top w (rdV A n c p f) rdZ 71 71)
  clear h hD hf hp hn
  clear hf0
  by_cases hx : m < x
  · rw [if_pos hx]
    have hd : decide ((m : Int) < (x : Int)) = true := by simp; omega
    have hd' : decide (m < x) = true := by simpa using hx
    clear hx
    obtain ⟨G1, G2, hG⟩ : ∃ G1 G2, failF (F1, F2) 2 (p : Int) = (G1, G2) := ⟨_, _, rfl⟩
    have HFAIL : Hid (∀ w, Calls Try.prog 95 #[.agg (rdV A n c q (F1, F2)), .int .i64 2, .int .i64 (p : Int)] w fun e w' => e = .returned (.agg (rdV A n c q (G1, G2))) ∧ Below w.heap.size w w') := fun w => by have := rfail_any A n c q (F1, F2) 2 p w; rwa [hG] at this
    rw [hG]
    clear hG
    go_enter Try.func138, Try.ntmps138
    go_wp2_with fail
    generalize World.alloc (World.alloc _ _) _ = w0 at *
    have hz0 := HZ.out.size
    have hr0 := (show Blk _ _ _ _ from HR.out).lt
    have hk0 := (show Blk _ _ _ _ from HK.out).lt
    go_wp2_with fail
    refine (HRD.out _ HZ.out).mono ?_; rintro e w1 ⟨rfl, hb1⟩
    have HB1 := Lib.hid (HZ.out.trans (hb1.mono hz0))
    have hk1 : Blk w1 w.heap.size 71 (rdV A n c p f) := Blk.below HK.out hb1 hk0
    have d0 := hk1.cell 0
    have d1 := hk1.cell 1
    have d2 := hk1.cell 2
    have d3 := hk1.cell 3
    have HR1 : Hid (Blk w1 (w.heap.size + 1) 71 rdZ) := Blk.below HR.out hb1 hr0
    have hz1 := hb1.size
    have hl1 := hk1.lt
    clear hb1 hk1
    go_wp2_with fail
    refine (HFAIL.out _).mono ?_; rintro e w2 ⟨rfl, hb2⟩
    have HR2 : Hid (Blk w2 (w.heap.size + 1) 71 rdZ) := Blk.below (HR1.out.alloc _) hb2 (HR1.out.alloc _).lt
    have HB2 : Hid (Below w.heap.size w w2) := (HB1.out.alloc (by omega) _).trans (hb2.mono (by simp; omega))
    clear hb2 d0 d1 d2 d3
    go_wp2_with (refine wpList_put_row rfl 71 (.tmp 4) (.tmp 21) rfl (w.heap.size + 1) (rdV A n c q (G1, G2)) rfl rfl 71 _ HR2.out H.out rfl (by simp [Value.oneCell']) ?_; intro w3 hblk hgr)
    have hbz : Below w.heap.size w w3 := HB2.out.grown hgr (HB2.out).size (fun k hk => by injection hk with hk; omega)
    have e0 := hblk.cell 0
    have e1 := hblk.cell 1
    have e2 := hblk.cell 2
    have e3 := hblk.cell 3
    refine bodyPost_ret (v := rnV A n c (0, q, (G1, G2))) (by simp [results, Try.results138, go_sem, e0, e1, e2, e3]) rfl ⟨rfl, hbz⟩
  · rw [if_neg hx]
    have hd : decide ((m : Int) < (x : Int)) = false := by simp; omega
    have hd' : decide (m < x) = false := by simpa using hx
    clear hx
    go_enter Try.func138, Try.ntmps138
    go_wp2_with fail
    generalize World.alloc (World.alloc _ _) _ = w0 at *
    have hz0 := HZ.out.size
    have hr0 := (show Blk _ _ _ _ from HR.out).lt
    have hk0 := (show Blk _ _ _ _ from HK.out).lt
    go_wp2_with fail
    refine (HRD.out _ HZ.out).mono ?_; rintro e w1 ⟨rfl, hb1⟩
    have HB1 := Lib.hid (HZ.out.trans (hb1.mono hz0))
    have hk1 : Blk w1 w.heap.size 71 (rdV A n c p f) := Blk.below HK.out hb1 hk0
    have d0 := hk1.cell 0
    have d1 := hk1.cell 1
    have d2 := hk1.cell 2
    have d3 := hk1.cell 3
    have HR1 : Hid (Blk w1 (w.heap.size + 1) 71 rdZ) := Blk.below HR.out hb1 hr0
    have hz1 := hb1.size
    have hl1 := hk1.lt
    clear hb1 hk1
    clear d0 d1 d2 d3
    go_wp2_with (refine wpList_put_row rfl 71 (.tmp 4) (.tmp 22) rfl (w.heap.size + 1) (rdV A n c q (F1, F2)) rfl rfl 71 _ (HR1.out.alloc _) H.out rfl (by simp [Value.oneCell']) ?_; intro w3 hblk hgr)
    have hbz : Below w.heap.size w w3 := (HB1.out.alloc (by omega) _).grown hgr ((HB1.out.alloc (by omega) _)).size (fun k hk => by injection hk with hk; omega)
    have e0 := hblk.cell 0
    have e1 := hblk.cell 1
    have e2 := hblk.cell 2
    have e3 := hblk.cell 3
    refine bodyPost_ret (v := rnV A n c (x, q, (F1, F2))) (by simp [results, Try.results138, go_sem, e0, e1, e2, e3]) rfl ⟨rfl, hbz⟩
set_option maxRecDepth 100000 in
set_option maxHeartbeats 1000000 in
theorem repoch_any (h : rpU8.sl w D A n c l) (hD : ∀ k, D k → k < w.heap.size) (hf : OkF f) (hp : p ≤ n) (hn : n ≤ 1000000000) :
    Calls Try.prog 112 #[.agg (rdV A n c p f), .int .i64 1] w fun e w' => e = .returned (rnV A n c (mustF isEpoch l p f)) ∧ Below w.heap.size w w' := by
  have H : Hid ((Try.prog.info? 71).map (·.size) = some 4) := by unfold Hid; kernel_rfl
  have HRD : Hid (∀ w', Below w.heap.size w w' → Calls Try.prog 96 #[.agg (rdV A n c p f)] w' fun e w'' => e = .returned (rnV A n c (vrdF l p f)) ∧ Below w'.heap.size w' w'') := fun w' hb => rread_any (Rp.sl_below h hb hD) (fun k hk => Nat.lt_of_lt_of_le (hD k hk) hb.size) hf hp hn
  have hf0 := @vrdF_fail0 l p f
  unfold mustF
  generalize vrdF l p f = r at *
  obtain ⟨x, q, F1, F2⟩ := r
  simp only at hf0 ⊢
  have HZ := Lib.hid (cbelow_two w (.cells (rdV A n c p f) 71) (.cells rdZ 71))
  have HK := Lib.hid ((Blk.new w 71 (rdV A n c p f)).alloc (.cells rdZ 71))
  have HR := Lib.hid (cblk_top w (rdV A n c p f) rdZ 71 71)
  clear h hD hf hp hn
  by_cases h0 : F1 = 0
  case neg =>
    rw [if_neg h0]
    obtain rfl : x = 0 := hf0 h0
    have hd : (F1 != 0) = true := by simpa using h0
    have hd' : (F1 == 0) = false := by simpa using h0
    clear h0 hf0
    go_enter Try.func112, Try.ntmps112
    go_wp2_with fail
    generalize World.alloc (World.alloc _ _) _ = w0 at *
    have hz0 := HZ.out.size
    have hr0 := (show Blk _ _ _ _ from HR.out).lt
    have hk0 := (show Blk _ _ _ _ from HK.out).lt
    go_wp2_with fail
    refine (HRD.out _ HZ.out).mono ?_; rintro e w1 ⟨rfl, hb1⟩
    have HB1 := Lib.hid (HZ.out.trans (hb1.mono hz0))
    have hk1 : Blk w1 w.heap.size 71 (rdV A n c p f) := Blk.below HK.out hb1 hk0
    have d0 := hk1.cell 0
    have d1 := hk1.cell 1
    have d2 := hk1.cell 2
    have d3 := hk1.cell 3
    have HR1 : Hid (Blk w1 (w.heap.size + 1) 71 rdZ) := Blk.below HR.out hb1 hr0
    have hz1 := hb1.size
    have hl1 := hk1.lt
    clear hb1 hk1
    clear d0 d1 d2 d3
    go_wp2_with (refine wpList_put_row rfl 71 (.tmp 4) (.tmp 17) rfl (w.heap.size + 1) (rdV A n c q (F1, F2)) rfl rfl 71 _ (HR1.out.alloc _) H.out rfl (by simp [Value.oneCell']) ?_; intro w3 hblk hgr)
    have hbz : Below w.heap.size w w3 := (HB1.out.alloc (by omega) _).grown hgr ((HB1.out.alloc (by omega) _)).size (fun k hk => by injection hk with hk; omega)
    have e0 := hblk.cell 0
    have e1 := hblk.cell 1
    have e2 := hblk.cell 2
    have e3 := hblk.cell 3
    refine bodyPost_ret (v := rnV A n c (0, q, (F1, F2))) (by simp [results, Try.results112, go_sem, e0, e1, e2, e3]) rfl ⟨rfl, hbz⟩
  case pos =>
    rw [if_pos h0]
    have hd0 : (F1 != 0) = false := by simpa using h0
    have hd0' : (F1 == 0) = true := by simpa using h0
    clear h0 hf0
    cases hR : isEpoch x
    case false =>
      simp only [Bool.false_eq_true, if_false]
      obtain ⟨G1, G2, hG⟩ : ∃ G1 G2, failF (F1, F2) 3 (p : Int) = (G1, G2) := ⟨_, _, rfl⟩
      have HFAIL : Hid (∀ w, Calls Try.prog 95 #[.agg (rdV A n c q (F1, F2)), .int .i64 3, .int .i64 (p : Int)] w fun e w' => e = .returned (.agg (rdV A n c q (G1, G2))) ∧ Below w.heap.size w w') := fun w => by have := rfail_any A n c q (F1, F2) 3 p w; rwa [hG] at this
      rw [hG]
      clear hG
      have HRR := Lib.hid hR
      go_enter Try.func112, Try.ntmps112
      go_wp2_with fail
      generalize World.alloc (World.alloc _ _) _ = w0 at *
      have hz0 := HZ.out.size
      have hr0 := (show Blk _ _ _ _ from HR.out).lt
      have hk0 := (show Blk _ _ _ _ from HK.out).lt
      go_wp2_with fail
      refine (HRD.out _ HZ.out).mono ?_; rintro e w1 ⟨rfl, hb1⟩
      have HB1 := Lib.hid (HZ.out.trans (hb1.mono hz0))
      have hk1 : Blk w1 w.heap.size 71 (rdV A n c p f) := Blk.below HK.out hb1 hk0
      have d0 := hk1.cell 0
      have d1 := hk1.cell 1
      have d2 := hk1.cell 2
      have d3 := hk1.cell 3
      have HR1 : Hid (Blk w1 (w.heap.size + 1) 71 rdZ) := Blk.below HR.out hb1 hr0
      have hz1 := hb1.size
      have hl1 := hk1.lt
      clear hb1 hk1
      go_wp2_with fail
      refine (rr17_any x _).mono ?_; rintro e w5 ⟨rfl, rfl⟩
      rw [hR]
      go_wp2_with fail
      refine (HFAIL.out _).mono ?_; rintro e w2 ⟨rfl, hb2⟩
      have HR2 : Hid (Blk w2 (w.heap.size + 1) 71 rdZ) := Blk.below (HR1.out.alloc _) hb2 (HR1.out.alloc _).lt
      have HB2 : Hid (Below w.heap.size w w2) := (HB1.out.alloc (by omega) _).trans (hb2.mono (by simp; omega))
      clear hb2 d0 d1 d2 d3
      go_wp2_with (refine wpList_put_row rfl 71 (.tmp 4) (.tmp 45) rfl (w.heap.size + 1) (rdV A n c q (G1, G2)) rfl rfl 71 _ HR2.out H.out rfl (by simp [Value.oneCell']) ?_; intro w3 hblk hgr)
      have hbz : Below w.heap.size w w3 := HB2.out.grown hgr (HB2.out).size (fun k hk => by injection hk with hk; omega)
      have e0 := hblk.cell 0
      have e1 := hblk.cell 1
      have e2 := hblk.cell 2
      have e3 := hblk.cell 3
      refine bodyPost_ret (v := rnV A n c (0, q, (G1, G2))) (by simp [results, Try.results112, go_sem, e0, e1, e2, e3]) rfl ⟨rfl, hbz⟩
    case true =>
      simp only [if_true]
      have HRR := Lib.hid hR
      go_enter Try.func112, Try.ntmps112
      go_wp2_with fail
      generalize World.alloc (World.alloc _ _) _ = w0 at *
      have hz0 := HZ.out.size
      have hr0 := (show Blk _ _ _ _ from HR.out).lt
      have hk0 := (show Blk _ _ _ _ from HK.out).lt
      go_wp2_with fail
      refine (HRD.out _ HZ.out).mono ?_; rintro e w1 ⟨rfl, hb1⟩
      have HB1 := Lib.hid (HZ.out.trans (hb1.mono hz0))
      have hk1 : Blk w1 w.heap.size 71 (rdV A n c p f) := Blk.below HK.out hb1 hk0
      have d0 := hk1.cell 0
      have d1 := hk1.cell 1
      have d2 := hk1.cell 2
      have d3 := hk1.cell 3
      have HR1 : Hid (Blk w1 (w.heap.size + 1) 71 rdZ) := Blk.below HR.out hb1 hr0
      have hz1 := hb1.size
      have hl1 := hk1.lt
      clear hb1 hk1
      go_wp2_with fail
      refine (rr17_any x _).mono ?_; rintro e w5 ⟨rfl, rfl⟩
      rw [hR]
      clear d0 d1 d2 d3
      go_wp2_with (refine wpList_put_row rfl 71 (.tmp 4) (.tmp 46) rfl (w.heap.size + 1) (rdV A n c q (F1, F2)) rfl rfl 71 _ (HR1.out.alloc _) H.out rfl (by simp [Value.oneCell']) ?_; intro w3 hblk hgr)
      have hbz : Below w.heap.size w w3 := (HB1.out.alloc (by omega) _).grown hgr ((HB1.out.alloc (by omega) _)).size (fun k hk => by injection hk with hk; omega)
      have e0 := hblk.cell 0
      have e1 := hblk.cell 1
      have e2 := hblk.cell 2
      have e3 := hblk.cell 3
      refine bodyPost_ret (v := rnV A n c (x, q, (F1, F2))) (by simp [results, Try.results112, go_sem, e0, e1, e2, e3]) rfl ⟨rfl, hbz⟩
set_option maxRecDepth 100000 in
set_option maxHeartbeats 1000000 in
theorem rpos_any (h : rpU8.sl w D A n c l) (hD : ∀ k, D k → k < w.heap.size) (hf : OkF f) (hp : p ≤ n) (hn : n ≤ 1000000000) :
    Calls Try.prog 112 #[.agg (rdV A n c p f), .int .i64 2] w fun e w' => e = .returned (rnV A n c (mustF isPos l p f)) ∧ Below w.heap.size w w' := by
  have H : Hid ((Try.prog.info? 71).map (·.size) = some 4) := by unfold Hid; kernel_rfl
  have HRD : Hid (∀ w', Below w.heap.size w w' → Calls Try.prog 96 #[.agg (rdV A n c p f)] w' fun e w'' => e = .returned (rnV A n c (vrdF l p f)) ∧ Below w'.heap.size w' w'') := fun w' hb => rread_any (Rp.sl_below h hb hD) (fun k hk => Nat.lt_of_lt_of_le (hD k hk) hb.size) hf hp hn
  have hf0 := @vrdF_fail0 l p f
  unfold mustF
  generalize vrdF l p f = r at *
  obtain ⟨x, q, F1, F2⟩ := r
  simp only at hf0 ⊢
  have HZ := Lib.hid (cbelow_two w (.cells (rdV A n c p f) 71) (.cells rdZ 71))
  have HK := Lib.hid ((Blk.new w 71 (rdV A n c p f)).alloc (.cells rdZ 71))
  have HR := Lib.hid (cblk_top w (rdV A n c p f) rdZ 71 71)
  clear h hD hf hp hn
  by_cases h0 : F1 = 0
  case neg =>
    rw [if_neg h0]
    obtain rfl : x = 0 := hf0 h0
    have hd : (F1 != 0) = true := by simpa using h0
    have hd' : (F1 == 0) = false := by simpa using h0
    clear h0 hf0
    go_enter Try.func112, Try.ntmps112
    go_wp2_with fail
    generalize World.alloc (World.alloc _ _) _ = w0 at *
    have hz0 := HZ.out.size
    have hr0 := (show Blk _ _ _ _ from HR.out).lt
    have hk0 := (show Blk _ _ _ _ from HK.out).lt
    go_wp2_with fail
    refine (HRD.out _ HZ.out).mono ?_; rintro e w1 ⟨rfl, hb1⟩
    have HB1 := Lib.hid (HZ.out.trans (hb1.mono hz0))
    have hk1 : Blk w1 w.heap.size 71 (rdV A n c p f) := Blk.below HK.out hb1 hk0
    have d0 := hk1.cell 0
    have d1 := hk1.cell 1
    have d2 := hk1.cell 2
    have d3 := hk1.cell 3
    have HR1 : Hid (Blk w1 (w.heap.size + 1) 71 rdZ) := Blk.below HR.out hb1 hr0
    have hz1 := hb1.size
    have hl1 := hk1.lt
    clear hb1 hk1
    clear d0 d1 d2 d3
    go_wp2_with (refine wpList_put_row rfl 71 (.tmp 4) (.tmp 17) rfl (w.heap.size + 1) (rdV A n c q (F1, F2)) rfl rfl 71 _ (HR1.out.alloc _) H.out rfl (by simp [Value.oneCell']) ?_; intro w3 hblk hgr)
    have hbz : Below w.heap.size w w3 := (HB1.out.alloc (by omega) _).grown hgr ((HB1.out.alloc (by omega) _)).size (fun k hk => by injection hk with hk; omega)
    have e0 := hblk.cell 0
    have e1 := hblk.cell 1
    have e2 := hblk.cell 2
    have e3 := hblk.cell 3
    refine bodyPost_ret (v := rnV A n c (0, q, (F1, F2))) (by simp [results, Try.results112, go_sem, e0, e1, e2, e3]) rfl ⟨rfl, hbz⟩
  case pos =>
    rw [if_pos h0]
    have hd0 : (F1 != 0) = false := by simpa using h0
    have hd0' : (F1 == 0) = true := by simpa using h0
    clear h0 hf0
    cases hR : isPos x
    case false =>
      simp only [Bool.false_eq_true, if_false]
      obtain ⟨G1, G2, hG⟩ : ∃ G1 G2, failF (F1, F2) 3 (p : Int) = (G1, G2) := ⟨_, _, rfl⟩
      have HFAIL : Hid (∀ w, Calls Try.prog 95 #[.agg (rdV A n c q (F1, F2)), .int .i64 3, .int .i64 (p : Int)] w fun e w' => e = .returned (.agg (rdV A n c q (G1, G2))) ∧ Below w.heap.size w w') := fun w => by have := rfail_any A n c q (F1, F2) 3 p w; rwa [hG] at this
      rw [hG]
      clear hG
      have HRR := Lib.hid hR
      go_enter Try.func112, Try.ntmps112
      go_wp2_with fail
      generalize World.alloc (World.alloc _ _) _ = w0 at *
      have hz0 := HZ.out.size
      have hr0 := (show Blk _ _ _ _ from HR.out).lt
      have hk0 := (show Blk _ _ _ _ from HK.out).lt
      go_wp2_with fail
      refine (HRD.out _ HZ.out).mono ?_; rintro e w1 ⟨rfl, hb1⟩
      have HB1 := Lib.hid (HZ.out.trans (hb1.mono hz0))
      have hk1 : Blk w1 w.heap.size 71 (rdV A n c p f) := Blk.below HK.out hb1 hk0
      have d0 := hk1.cell 0
      have d1 := hk1.cell 1
      have d2 := hk1.cell 2
      have d3 := hk1.cell 3
      have HR1 : Hid (Blk w1 (w.heap.size + 1) 71 rdZ) := Blk.below HR.out hb1 hr0
      have hz1 := hb1.size
      have hl1 := hk1.lt
      clear hb1 hk1
      go_wp2_with fail
      refine (rp17_any x _).mono ?_; rintro e w5 ⟨rfl, rfl⟩
      rw [hR]
      go_wp2_with fail
      refine (HFAIL.out _).mono ?_; rintro e w2 ⟨rfl, hb2⟩
      have HR2 : Hid (Blk w2 (w.heap.size + 1) 71 rdZ) := Blk.below (HR1.out.alloc _) hb2 (HR1.out.alloc _).lt
      have HB2 : Hid (Below w.heap.size w w2) := (HB1.out.alloc (by omega) _).trans (hb2.mono (by simp; omega))
      clear hb2 d0 d1 d2 d3
      go_wp2_with (refine wpList_put_row rfl 71 (.tmp 4) (.tmp 45) rfl (w.heap.size + 1) (rdV A n c q (G1, G2)) rfl rfl 71 _ HR2.out H.out rfl (by simp [Value.oneCell']) ?_; intro w3 hblk hgr)
      have hbz : Below w.heap.size w w3 := HB2.out.grown hgr (HB2.out).size (fun k hk => by injection hk with hk; omega)
      have e0 := hblk.cell 0
      have e1 := hblk.cell 1
      have e2 := hblk.cell 2
      have e3 := hblk.cell 3
      refine bodyPost_ret (v := rnV A n c (0, q, (G1, G2))) (by simp [results, Try.results112, go_sem, e0, e1, e2, e3]) rfl ⟨rfl, hbz⟩
    case true =>
      simp only [if_true]
      have HRR := Lib.hid hR
      go_enter Try.func112, Try.ntmps112
      go_wp2_with fail
      generalize World.alloc (World.alloc _ _) _ = w0 at *
      have hz0 := HZ.out.size
      have hr0 := (show Blk _ _ _ _ from HR.out).lt
      have hk0 := (show Blk _ _ _ _ from HK.out).lt
      go_wp2_with fail
      refine (HRD.out _ HZ.out).mono ?_; rintro e w1 ⟨rfl, hb1⟩
      have HB1 := Lib.hid (HZ.out.trans (hb1.mono hz0))
      have hk1 : Blk w1 w.heap.size 71 (rdV A n c p f) := Blk.below HK.out hb1 hk0
      have d0 := hk1.cell 0
      have d1 := hk1.cell 1
      have d2 := hk1.cell 2
      have d3 := hk1.cell 3
      have HR1 : Hid (Blk w1 (w.heap.size + 1) 71 rdZ) := Blk.below HR.out hb1 hr0
      have hz1 := hb1.size
      have hl1 := hk1.lt
      clear hb1 hk1
      go_wp2_with fail
      refine (rp17_any x _).mono ?_; rintro e w5 ⟨rfl, rfl⟩
      rw [hR]
      clear d0 d1 d2 d3
      go_wp2_with (refine wpList_put_row rfl 71 (.tmp 4) (.tmp 46) rfl (w.heap.size + 1) (rdV A n c q (F1, F2)) rfl rfl 71 _ (HR1.out.alloc _) H.out rfl (by simp [Value.oneCell']) ?_; intro w3 hblk hgr)
      have hbz : Below w.heap.size w w3 := (HB1.out.alloc (by omega) _).grown hgr ((HB1.out.alloc (by omega) _)).size (fun k hk => by injection hk with hk; omega)
      have e0 := hblk.cell 0
      have e1 := hblk.cell 1
      have e2 := hblk.cell 2
      have e3 := hblk.cell 3
      refine bodyPost_ret (v := rnV A n c (x, q, (F1, F2))) (by simp [results, Try.results112, go_sem, e0, e1, e2, e3]) rfl ⟨rfl, hbz⟩
set_option maxRecDepth 100000 in
set_option maxHeartbeats 1000000 in
theorem rtail_any (h : rpU8.sl w D A n c l) (hD : ∀ k, D k → k < w.heap.size) (hf : OkF f) (hp : p ≤ n) (hn : n ≤ 1000000000) :
    Calls Try.prog 112 #[.agg (rdV A n c p f), .int .i64 3] w fun e w' => e = .returned (rnV A n c (mustF isTail l p f)) ∧ Below w.heap.size w w' := by
  have H : Hid ((Try.prog.info? 71).map (·.size) = some 4) := by unfold Hid; kernel_rfl
  have HRD : Hid (∀ w', Below w.heap.size w w' → Calls Try.prog 96 #[.agg (rdV A n c p f)] w' fun e w'' => e = .returned (rnV A n c (vrdF l p f)) ∧ Below w'.heap.size w' w'') := fun w' hb => rread_any (Rp.sl_below h hb hD) (fun k hk => Nat.lt_of_lt_of_le (hD k hk) hb.size) hf hp hn
  have hf0 := @vrdF_fail0 l p f
  unfold mustF
  generalize vrdF l p f = r at *
  obtain ⟨x, q, F1, F2⟩ := r
  simp only at hf0 ⊢
  have HZ := Lib.hid (cbelow_two w (.cells (rdV A n c p f) 71) (.cells rdZ 71))
  have HK := Lib.hid ((Blk.new w 71 (rdV A n c p f)).alloc (.cells rdZ 71))
  have HR := Lib.hid (cblk_top w (rdV A n c p f) rdZ 71 71)
  clear h hD hf hp hn
  by_cases h0 : F1 = 0
  case neg =>
    rw [if_neg h0]
    obtain rfl : x = 0 := hf0 h0
    have hd : (F1 != 0) = true := by simpa using h0
    have hd' : (F1 == 0) = false := by simpa using h0
    clear h0 hf0
    go_enter Try.func112, Try.ntmps112
    go_wp2_with fail
    generalize World.alloc (World.alloc _ _) _ = w0 at *
    have hz0 := HZ.out.size
    have hr0 := (show Blk _ _ _ _ from HR.out).lt
    have hk0 := (show Blk _ _ _ _ from HK.out).lt
    go_wp2_with fail
    refine (HRD.out _ HZ.out).mono ?_; rintro e w1 ⟨rfl, hb1⟩
    have HB1 := Lib.hid (HZ.out.trans (hb1.mono hz0))
    have hk1 : Blk w1 w.heap.size 71 (rdV A n c p f) := Blk.below HK.out hb1 hk0
    have d0 := hk1.cell 0
    have d1 := hk1.cell 1
    have d2 := hk1.cell 2
    have d3 := hk1.cell 3
    have HR1 : Hid (Blk w1 (w.heap.size + 1) 71 rdZ) := Blk.below HR.out hb1 hr0
    have hz1 := hb1.size
    have hl1 := hk1.lt
    clear hb1 hk1
    clear d0 d1 d2 d3
    go_wp2_with (refine wpList_put_row rfl 71 (.tmp 4) (.tmp 17) rfl (w.heap.size + 1) (rdV A n c q (F1, F2)) rfl rfl 71 _ (HR1.out.alloc _) H.out rfl (by simp [Value.oneCell']) ?_; intro w3 hblk hgr)
    have hbz : Below w.heap.size w w3 := (HB1.out.alloc (by omega) _).grown hgr ((HB1.out.alloc (by omega) _)).size (fun k hk => by injection hk with hk; omega)
    have e0 := hblk.cell 0
    have e1 := hblk.cell 1
    have e2 := hblk.cell 2
    have e3 := hblk.cell 3
    refine bodyPost_ret (v := rnV A n c (0, q, (F1, F2))) (by simp [results, Try.results112, go_sem, e0, e1, e2, e3]) rfl ⟨rfl, hbz⟩
  case pos =>
    rw [if_pos h0]
    have hd0 : (F1 != 0) = false := by simpa using h0
    have hd0' : (F1 == 0) = true := by simpa using h0
    clear h0 hf0
    cases hR : isTail x
    case false =>
      simp only [Bool.false_eq_true, if_false]
      obtain ⟨G1, G2, hG⟩ : ∃ G1 G2, failF (F1, F2) 3 (p : Int) = (G1, G2) := ⟨_, _, rfl⟩
      have HFAIL : Hid (∀ w, Calls Try.prog 95 #[.agg (rdV A n c q (F1, F2)), .int .i64 3, .int .i64 (p : Int)] w fun e w' => e = .returned (.agg (rdV A n c q (G1, G2))) ∧ Below w.heap.size w w') := fun w => by have := rfail_any A n c q (F1, F2) 3 p w; rwa [hG] at this
      rw [hG]
      clear hG
      have hd : decide ((4611686018427387904 : Int) < (x : Int)) = true := by unfold isTail at hR; simp at hR ⊢; omega
      clear hR
      go_enter Try.func112, Try.ntmps112
      go_wp2_with fail
      generalize World.alloc (World.alloc _ _) _ = w0 at *
      have hz0 := HZ.out.size
      have hr0 := (show Blk _ _ _ _ from HR.out).lt
      have hk0 := (show Blk _ _ _ _ from HK.out).lt
      go_wp2_with fail
      refine (HRD.out _ HZ.out).mono ?_; rintro e w1 ⟨rfl, hb1⟩
      have HB1 := Lib.hid (HZ.out.trans (hb1.mono hz0))
      have hk1 : Blk w1 w.heap.size 71 (rdV A n c p f) := Blk.below HK.out hb1 hk0
      have d0 := hk1.cell 0
      have d1 := hk1.cell 1
      have d2 := hk1.cell 2
      have d3 := hk1.cell 3
      have HR1 : Hid (Blk w1 (w.heap.size + 1) 71 rdZ) := Blk.below HR.out hb1 hr0
      have hz1 := hb1.size
      have hl1 := hk1.lt
      clear hb1 hk1
      go_wp2_with fail
      refine (HFAIL.out _).mono ?_; rintro e w2 ⟨rfl, hb2⟩
      have HR2 : Hid (Blk w2 (w.heap.size + 1) 71 rdZ) := Blk.below (HR1.out.alloc _) hb2 (HR1.out.alloc _).lt
      have HB2 : Hid (Below w.heap.size w w2) := (HB1.out.alloc (by omega) _).trans (hb2.mono (by simp; omega))
      clear hb2 d0 d1 d2 d3
      go_wp2_with (refine wpList_put_row rfl 71 (.tmp 4) (.tmp 45) rfl (w.heap.size + 1) (rdV A n c q (G1, G2)) rfl rfl 71 _ HR2.out H.out rfl (by simp [Value.oneCell']) ?_; intro w3 hblk hgr)
      have hbz : Below w.heap.size w w3 := HB2.out.grown hgr (HB2.out).size (fun k hk => by injection hk with hk; omega)
      have e0 := hblk.cell 0
      have e1 := hblk.cell 1
      have e2 := hblk.cell 2
      have e3 := hblk.cell 3
      refine bodyPost_ret (v := rnV A n c (0, q, (G1, G2))) (by simp [results, Try.results112, go_sem, e0, e1, e2, e3]) rfl ⟨rfl, hbz⟩
    case true =>
      simp only [if_true]
      have hd : decide ((4611686018427387904 : Int) < (x : Int)) = false := by unfold isTail at hR; simp at hR ⊢; omega
      clear hR
      go_enter Try.func112, Try.ntmps112
      go_wp2_with fail
      generalize World.alloc (World.alloc _ _) _ = w0 at *
      have hz0 := HZ.out.size
      have hr0 := (show Blk _ _ _ _ from HR.out).lt
      have hk0 := (show Blk _ _ _ _ from HK.out).lt
      go_wp2_with fail
      refine (HRD.out _ HZ.out).mono ?_; rintro e w1 ⟨rfl, hb1⟩
      have HB1 := Lib.hid (HZ.out.trans (hb1.mono hz0))
      have hk1 : Blk w1 w.heap.size 71 (rdV A n c p f) := Blk.below HK.out hb1 hk0
      have d0 := hk1.cell 0
      have d1 := hk1.cell 1
      have d2 := hk1.cell 2
      have d3 := hk1.cell 3
      have HR1 : Hid (Blk w1 (w.heap.size + 1) 71 rdZ) := Blk.below HR.out hb1 hr0
      have hz1 := hb1.size
      have hl1 := hk1.lt
      clear hb1 hk1
      clear d0 d1 d2 d3
      go_wp2_with (refine wpList_put_row rfl 71 (.tmp 4) (.tmp 46) rfl (w.heap.size + 1) (rdV A n c q (F1, F2)) rfl rfl 71 _ (HR1.out.alloc _) H.out rfl (by simp [Value.oneCell']) ?_; intro w3 hblk hgr)
      have hbz : Below w.heap.size w w3 := (HB1.out.alloc (by omega) _).grown hgr ((HB1.out.alloc (by omega) _)).size (fun k hk => by injection hk with hk; omega)
      have e0 := hblk.cell 0
      have e1 := hblk.cell 1
      have e2 := hblk.cell 2
      have e3 := hblk.cell 3
      refine bodyPost_ret (v := rnV A n c (x, q, (F1, F2))) (by simp [results, Try.results112, go_sem, e0, e1, e2, e3]) rfl ⟨rfl, hbz⟩
end
end Go.Proofs.Ytmdgmnaaopineaa
/- The walks of chapter 3: a writer in its block, and what each of its calls makes of it. -/
namespace Go.Proofs.Ytmdgmnaaopineaa
open Go.ChangeShapes Go.WideShapes Go.ChangeAt Go.RowKit
set_option linter.unusedVariables false

theorem elemB : Elem Try.prog 36 5 1 1 := Elem.of (z := .int .u8 0) Try.underlying36 (by kernel_rfl) rfl (by decide)

/-- A writer stands in block g: its bound, what was written, its code; F are the blocks that it works on. -/
def Pen (w : World) (F : Dom) (g : Nat) (most : Int) (b : List UInt8) (code : Int) : Prop :=
  ∃ A n c, Blk w g 139 #[.int .i64 most, .slice A n c, .int .i64 code] ∧ w.ownsRow 0 5 1 (.slice A n c) n (b.map bv) ∧ b.length = n ∧ (∀ k, F k ↔ (k = g ∨ some k = (Value.slice A n c).ownBlock))
theorem own_lt {w : World} {base : Nat} {e : TypeId} {size n : Nat} {v : Value} {xs : List Value} (h : w.ownsRow base e size v n xs) {k : Nat} (hk : some k = v.ownBlock) : k < w.heap.size := (h.lt k hk.symm).2
theorem Pen.lt {w : World} {F : Dom} {g : Nat} {most : Int} {b : List UInt8} {code : Int} (h : Pen w F g most b code) : ∀ k, F k → k < w.heap.size := by
  obtain ⟨A, n, c, hb, ho, _, hF⟩ := h
  intro k hk
  rcases (hF k).1 hk with rfl | hk
  · exact hb.lt
  · exact own_lt ho hk
theorem Pen.keep {w w' : World} {F : Dom} {g : Nat} {most : Int} {b : List UInt8} {code : Int} (h : Pen w F g most b code) (hs : Same F w w') (hz : w.heap.size ≤ w'.heap.size) : Pen w' F g most b code := by
  obtain ⟨A, n, c, hb, ho, hn, hF⟩ := h
  refine ⟨A, n, c, (hs g ((hF g).2 (.inl rfl))).trans hb, ⟨ho.1, ?_⟩, hn, hF⟩
  rcases ho.2 with hv | ⟨q, cap, cur, hv, hq, hh, rest⟩
  · exact .inl hv
  · exact .inr ⟨q, cap, cur, hv, hq, (hs q ((hF q).2 (.inr (by rw [hv]; rfl)))).trans hh, rest⟩
theorem Pen.below {w w' : World} {F : Dom} {g : Nat} {most : Int} {b : List UInt8} {code : Int} (h : Pen w F g most b code) (hb : Below w.heap.size w w') : Pen w' F g most b code :=
  h.keep (Same.of_below hb h.lt) hb.size
theorem Pen.ne {w : World} {g : Nat} {e t : TypeId} {cs : Array Value} {base size n : Nat} {v : Value} {xs : List Value} (hb : Blk w g t cs) (ho : w.ownsRow base e size v n xs) (hne : e ≠ t) : some g ≠ v.ownBlock := by
  intro h
  rcases ho.2 with ⟨rfl, _⟩ | ⟨q, cap, cur, rfl, _, hh, _⟩
  · cases h
  · simp only [Value.ownBlock, Option.some.injEq] at h
    subst h
    unfold Blk at hb
    rw [hh] at hb
    injection hb with hb
    injection hb with _ he
    exact hne he

section
variable {w : World} {F : Dom} {g : Nat} {most : Int} {b : List UInt8} {code : Int}
theorem code_at (h : Pen w F g most b code) : Calls Try.prog 106 #[.pointer (some ⟨g, 0, none⟩)] w fun e w' => e = .returned (.int .i64 code) ∧ w = w' := by
  obtain ⟨A, n, c, hb, ho, hn, hF⟩ := h
  have hc := hb.cell 2
  clear hb ho hF hn
  go_enter Try.func106, Try.ntmps106
  go_wp2
  go_ret
  exact ⟨rfl, rfl⟩
theorem room_at (h : Pen w F g most b code) (h0 : 0 ≤ most) (h1 : most ≤ 9223372036854775807) (hb : b.length ≤ 1000000000) : Calls Try.prog 147 #[.pointer (some ⟨g, 0, none⟩)] w fun e w' => e = .returned (.int .i64 (most - b.length)) ∧ Below w.heap.size w w' := by
  obtain ⟨A, n, c, hb, ho, hn, hF⟩ := h
  have hc0 := hb.cell 0
  have hc := hb.cell 1
  rw [hn]
  have hn' : n ≤ 1000000000 := by omega
  clear hb ho hF hn
  go_enter Try.func147, Try.ntmps147
  go_wp2_with fail
  go_quiet (fail)
  go_wp2_with fail
  go_ret
  exact ⟨rfl, ⟨rfl, rfl, rfl, Nat.le_refl _, fun _ _ => rfl⟩⟩
theorem fail_at (h : Pen w F g most b code) (c : Int) : Calls Try.prog 103 #[.pointer (some ⟨g, 0, none⟩), .int .i64 c] w fun e w' => e = .returned (.tuple #[]) ∧ Pen w' F g most b (if code = 0 then c else code) ∧ Chg F w w' := by
  have hcode := code_at h
  have HC := Lib.hid hcode
  have HP := Lib.hid h
  obtain ⟨A, n, cc, hb, ho, hn, hF⟩ := h
  have hc := hb.cell 2
  have hf := hb.frozen 2
  have HB := Lib.hid hb
  have HO := Lib.hid ho
  have HF := Lib.hid hF
  clear hb ho hF hcode
  by_cases h0 : (code == 0) = true
  · have hif : (if code = 0 then c else code) = c := if_pos (by simpa using h0)
    rw [hif]
    clear hif
    go_enter Try.func103, Try.ntmps103
    go_wp2_with (go_at_call 106; refine HC.out.mono ?_; rintro e w' ⟨rfl, rfl⟩)
    go_end0
    refine ⟨rfl, ⟨A, n, cc, HB.out.put 2 _, ?_, hn, HF.out⟩, (Chg.refl _ _).setCell (.inl ((HF.out g).2 (.inl rfl))) _⟩
    exact HO.out.kept (grown_setCell _ _ _) (.inr (fun e => Pen.ne HB.out HO.out (by decide) e.symm))
  · have h0' : (code == 0) = false := by simpa using h0
    have hif : (if code = 0 then c else code) = code := if_neg (by simpa using h0)
    rw [hif]
    clear hif h0
    go_enter Try.func103, Try.ntmps103
    go_wp2_with (go_at_call 106; refine HC.out.mono ?_; rintro e w' ⟨rfl, rfl⟩)
    go_end0
    exact ⟨rfl, HP.out, Chg.refl _ _⟩
end
end Go.Proofs.Ytmdgmnaaopineaa
/- The walks of chapter 3: Put, Text, Bytes, New, and a number's lowest bytes. -/
namespace Go.Proofs.Ytmdgmnaaopineaa
open Go.ChangeShapes Go.WideShapes Go.ChangeAt Go.RowKit
set_option linter.unusedVariables false

def putB (most : Int) (b : List UInt8) (code : Int) (new : List UInt8) : List UInt8 × Int :=
  if code ≠ 0 then (b, code) else if most < b.length + new.length then (b, 2) else (b ++ new, 0)
theorem put_at {w : World} {F : Dom} {g : Nat} {most : Int} {b : List UInt8} {code : Int} (h : Pen w F g most b code) (h0 : 0 ≤ most) (h1 : most ≤ 9223372036854775807) (hb : b.length ≤ 1000000000)
    {D : Dom} {A : Option Addr} {n c : Nat} {new : List UInt8} (hs : rpU8.sl w D A n c new) (hD : ∀ k, D k → k < w.heap.size) (hn : n ≤ 1000000000) :
    Calls Try.prog 134 #[.pointer (some ⟨g, 0, none⟩), .slice A n c] w fun e w' => e = .returned (.tuple #[]) ∧ ∃ F', Pen w' F' g most (putB most b code new).1 (putB most b code new).2 ∧ Chg F w w' ∧ (∀ k, F' k → F k ∨ w.heap.size ≤ k) := by
  have hcode := code_at h
  have hroom := room_at h h0 h1 hb
  have hlt := h.lt
  obtain ⟨hsl, _, _⟩ := Rp.sl_len hs
  have HC := Lib.hid hcode
  have HR := Lib.hid hroom
  have HP := Lib.hid h
  have HS := Lib.hid hs
  clear hcode hroom hs
  by_cases hc0 : code = 0
  · subst hc0
    have hz : ((0 : Int) != 0) = false := rfl
    by_cases hbig : most < b.length + n
    · have hput : putB most b 0 new = (b, 2) := by unfold putB; rw [if_neg (by simp), if_pos (by rw [hsl]; omega)]
      rw [hput]
      have hd : decide (most - (b.length : Int) < (n : Int)) = true := by simp; omega
      have hfail := fun (w' : World) (hw : Below w.heap.size w w') => fail_at (h.below hw) 2
      have HFL := Lib.hid hfail
      clear hfail hput h hlt hD
      go_enter Try.func134, Try.ntmps134
      go_wp2_with fail
      refine HC.out.mono ?_; rintro e w' ⟨rfl, rfl⟩
      go_wp2_with fail
      refine HR.out.mono ?_; rintro e w1 ⟨rfl, hb1⟩
      go_wp2_with fail
      refine (HFL.out _ hb1).mono ?_; rintro e w2 ⟨rfl, hp2, hch⟩
      go_wp2_with fail
      go_end0
      exact ⟨rfl, F, hp2, (Chg.of_pure hb1 F).trans hch, fun k hk => .inl hk⟩
    · have hput : putB most b 0 new = (b ++ new, 0) := by unfold putB; rw [if_neg (by simp), if_neg (by rw [hsl]; omega)]
      rw [hput]
      have hd : decide (most - (b.length : Int) < (n : Int)) = false := by simp; omega
      clear hput h
      go_enter Try.func134, Try.ntmps134
      go_wp2_with fail
      refine HC.out.mono ?_; rintro e w' ⟨rfl, rfl⟩
      go_wp2_with fail
      refine HR.out.mono ?_; rintro e w1 ⟨rfl, hb1⟩
      obtain ⟨A0, n0, c0, hblk, ho, hbn, hF⟩ := HP.out.below hb1
      have hc1 := hblk.cell 1
      have hsrc := Src.bytes (Rp.sl_below HS.out hb1 hD)
      have HB := Lib.hid hblk
      have HO := Lib.hid ho
      have HFF := Lib.hid hF
      have HSR := Lib.hid hsrc
      clear hblk ho hF hsrc hlt hD
      go_wp2_with (at_builtin; refine wpList_app rfl (.tmp 8) (.tmp 9) _ rfl elemB rfl HO.out rfl HSR.out (by unfold maxLen; omega) (by omega) (Nat.zero_le _) ?_; intro A2 c2 w2 ho2 hg2 hat2
                   have hblk2 := HB.out.grown hg2 (Pen.ne HB.out HO.out (by decide))
                   have hc2 := hblk2.cell 1
                   have hf2 := hblk2.frozen 1)
      go_end0
      have hne2 : some g ≠ (Value.slice A2 (n0 + n) c2).ownBlock := Pen.ne hblk2 ho2 (by decide)
      refine ⟨rfl, fun k => k = g ∨ some k = (Value.slice A2 (n0 + n) c2).ownBlock, ⟨A2, n0 + n, c2, hblk2.put 1 _, ?_, by rw [List.length_append, hbn, hsl], fun k => Iff.rfl⟩, ?_, ?_⟩
      · rw [List.map_append]
        exact ho2.kept (grown_setCell _ _ _) (.inr (fun e => hne2 e.symm))
      · refine (Chg.of_pure hb1 F).trans (((Chg.of_grown hg2).more (fun k _ hk => (HFF.out k).2 (.inr hk))).setCell (.inl ((HFF.out g).2 (.inl rfl))) _)
      · rintro k (rfl | hk)
        · exact .inl ((HFF.out _).2 (.inl rfl))
        · rcases hat2 with h | h
          · exact .inl ((HFF.out k).2 (.inr (hk.trans h)))
          · right
            rw [h] at hk
            injection hk with hk
            have := hb1.size
            omega
  · have hput : putB most b code new = (b, code) := by unfold putB; rw [if_pos hc0]
    rw [hput]
    have hz : (code != 0) = true := bne_iff_ne.2 hc0
    clear hput h hc0 hlt hD
    go_enter Try.func134, Try.ntmps134
    go_wp2_with fail
    refine HC.out.mono ?_; rintro e w' ⟨rfl, rfl⟩
    go_wp2_with fail
    go_end0
    exact ⟨rfl, F, HP.out, Chg.refl _ _, fun k hk => .inl hk⟩

theorem new_any (most : Int) (w : World) : Calls Try.prog 50 #[.int .i64 most] w fun e w' => e = .returned (.pointer (some ⟨w.heap.size, 0, none⟩)) ∧ Pen w' (fun k => k = w.heap.size) w.heap.size (max most 0) [] 0 ∧ Below w.heap.size w w' := by
  by_cases h : most < 0
  · have hm : max most 0 = 0 := by omega
    rw [hm]
    clear hm
    go_enter Try.func50, Try.ntmps50
    go_wp2_with fail
    go_ret
    exact ⟨rfl, ⟨none, 0, 0, Blk.new w _ _, World.ownsRow_nil _ _ _ _, rfl, fun k => by simp [Value.ownBlock]⟩, (Below.refl _ _).alloc (Nat.le_refl _) _⟩
  · have hm : max most 0 = most := by omega
    rw [hm]
    clear hm
    go_enter Try.func50, Try.ntmps50
    go_wp2_with fail
    go_ret
    exact ⟨rfl, ⟨none, 0, 0, Blk.new w _ _, World.ownsRow_nil _ _ _ _, rfl, fun k => by simp [Value.ownBlock]⟩, (Below.refl _ _).alloc (Nat.le_refl _) _⟩
theorem bytes_ok {w : World} {F : Dom} {g : Nat} {most : Int} {b : List UInt8} (h : Pen w F g most b 0) (hb : b.length ≤ 1000000000) :
    Calls Try.prog 52 #[.pointer (some ⟨g, 0, none⟩)] w fun e w' => ∃ A n c, e = .returned (.tuple #[.slice A n c, .int .i64 0]) ∧ w'.ownsRow w.heap.size 5 1 (.slice A n c) n (b.map bv) ∧ Below w.heap.size w w' := by
  have hcode := code_at h
  have HC := Lib.hid hcode
  obtain ⟨A, n, cc, hblk, ho, hn, hF⟩ := h
  have hc1 := ((hblk.alloc (.cells #[] 5)).cell 1)
  have hsrc := (Src.bytes (own_bytes (ho.alloc (.cells #[] 5))))
  have hmade := World.ownsRow_made (e := 5) (size := 1) (base := w.heap.size) w #[] 0 (Nat.le_refl _) (by decide) rfl
  have HM := Lib.hid hmade
  have HS := Lib.hid hsrc
  clear hmade hsrc hblk ho hF hcode
  go_enter Try.func52, Try.ntmps52
  go_wp2_with (first
    | (go_at_call 106; refine HC.out.mono ?_; rintro e w' ⟨rfl, rfl⟩)
    | (at_builtin; refine wpList_app rfl (.tmp 10) (.tmp 14) _ rfl elemB rfl HM.out rfl HS.out (by unfold maxLen; omega) (by omega) (by simp) ?_; intro A1 c1 w1 ho1 hg1 hat1; have ho1' := ho1; rw [Nat.zero_add, List.nil_append] at ho1'))
  have hb1 : Below w.heap.size w w1 := ((Below.refl _ _).alloc (Nat.le_refl _) _).grown hg1 (by simp) (fun k hk => (HM.out.lt k hk).1)
  go_ret2
  exact ⟨A1, n, c1, by simp, ho1', hb1⟩
theorem bytes_bad {w : World} {F : Dom} {g : Nat} {most : Int} {b : List UInt8} {code : Int} (h : Pen w F g most b code) (hc0 : code ≠ 0) :
    Calls Try.prog 52 #[.pointer (some ⟨g, 0, none⟩)] w fun e w' => e = .returned (.tuple #[.slice none 0 0, .int .i64 code]) ∧ w = w' := by
  have hcode := code_at h
  have HC := Lib.hid hcode
  have hz : (code != 0) = true := bne_iff_ne.2 hc0
  clear hcode hc0 h
  go_enter Try.func52, Try.ntmps52
  go_wp2_with (go_at_call 106; refine HC.out.mono ?_; rintro e w' ⟨rfl, rfl⟩)
  go_ret2
  exact ⟨rfl, rfl⟩
end Go.Proofs.Ytmdgmnaaopineaa
/- What stays behind a call: the words of the walks that a program prints. -/
namespace Go.Proofs.Ytmdgmnaaopineaa
open Go.RowKit
set_option linter.unusedVariables false
/-- A slice that reads as a list, in blocks that lie. -/
def Sl {α : Type} (r : Rp α) (w : World) (D : Dom) (A : Option Addr) (n c : Nat) (l : List α) : Prop := r.sl w D A n c l ∧ ∀ k, D k → k < w.heap.size
section
variable {α : Type} {r : Rp α} {w w' : World} {D F : Dom} {g : Nat} {t : TypeId} {cs : Array Value} {A : Option Addr} {n c : Nat} {l : List α} {b : List UInt8} {p : Nat} {f : Flt}
theorem keepB (h : Blk w g t cs) (hb : Below w.heap.size w w') : Blk w' g t cs := h.below hb h.lt
theorem keepS (h : Sl r w D A n c l) (hb : Below w.heap.size w w') : Sl r w' D A n c l := ⟨Rp.sl_below h.1 hb h.2, fun k hk => Nat.lt_of_lt_of_le (h.2 k hk) hb.size⟩
theorem keepR (h : Rd w D g b p f) (hb : Below w.heap.size w w') : Rd w' D g b p f := h.below hb
theorem keepO {base : Nat} {e : TypeId} {size m : Nat} {v : Value} {xs : List Value} (h : w.ownsRow base e size v m xs) (hb : Below w.heap.size w w') : w'.ownsRow base e size v m xs := by
  refine ⟨h.1, ?_⟩
  rcases h.2 with h0 | ⟨g, cap, cur, hv, hg, hh, hr⟩
  · exact .inl h0
  · exact .inr ⟨g, cap, cur, hv, hg, (hb.block g (Blk.lt (w := w) hh)).trans hh, hr⟩
theorem keepP {most code : Int} (h : Pen w F g most b code) (hb : Below w.heap.size w w') : Pen w' F g most b code := h.below hb
theorem stepB {a b c : World} (h : Below a.heap.size a b) (hb : Below b.heap.size b c) : Below a.heap.size a c := h.trans (hb.mono h.size)
theorem chB (h : Blk w g t cs) (hc : Chg F w w') (hF : ¬ F g) : Blk w' g t cs := (hc.block g h.lt hF).trans h
theorem chS (h : Sl r w D A n c l) (hc : Chg F w w') (hF : ∀ k, D k → ¬ F k) : Sl r w' D A n c l :=
  ⟨Rp.sl_keep h.1 (hc.same h.2 hF), fun k hk => Nat.lt_of_lt_of_le (h.2 k hk) hc.size⟩
theorem chO {base : Nat} {e : TypeId} {size m : Nat} {v : Value} {xs : List Value} (h : w.ownsRow base e size v m xs) (hc : Chg F w w') (hF : ∀ k, v.ownBlock = some k → ¬ F k) : w'.ownsRow base e size v m xs := by
  refine ⟨h.1, ?_⟩
  rcases h.2 with h0 | ⟨g, cap, cur, hv, hg, hh, hr⟩
  · exact .inl h0
  · exact .inr ⟨g, cap, cur, hv, hg, (hc.block g (Blk.lt (w := w) hh) (hF g (by rw [hv]; rfl))).trans hh, hr⟩
theorem chBase {a b c : World} (h : Below a.heap.size a b) (hc : Chg F b c) (hF : ∀ k, F k → a.heap.size ≤ k) : Below a.heap.size a c := h.trans (hc.below h.size hF)
theorem ownS {base : Nat} {e : TypeId} {l : List UInt8} (h : w.ownsRow base e 1 (.slice A n c) n (l.map bv)) : Sl rpU8 w (fun k => some k = (Value.slice A n c).ownBlock) A n c l := ⟨own_bytes h, fun k hk => own_lt h hk⟩
theorem rdPut (h : Rd w D g b p f) {a : Addr} (hg : a.block ≠ g) (hD : ¬ D a.block) (u : Value) : Rd (w.setCell a u) D g b p f :=
  h.keep (fun k hk => Below.heap_setCell _ _ _ _ (by
    rintro rfl
    rcases hk with rfl | hk
    · exact hg rfl
    · exact hD hk)) (by simp [World.setCell])
theorem rdDrew (h : Rd w D g b p f) : Rd w.drew D g b p f := h.keep (fun _ _ => rfl) (Nat.le_refl _)
theorem rdGrown {row : Option Nat} (h : Rd w D g b p f) (hg : w.grownBy w' row) (hk : some g ≠ row) (hD : ∀ k, D k → some k ≠ row) : Rd w' D g b p f :=
  h.keep (fun i hi => hg.block i (by
    rcases hi with rfl | hi
    · exact h.lt
    · exact h.dom i hi) (by
    rcases hi with rfl | hi
    · exact hk
    · exact hD i hi)) hg.size
theorem chGrown {a : World} {row : Option Nat} (h : Chg F a w) (hg : w.grownBy w' row) (hk : ∀ k, row = some k → a.heap.size ≤ k) : Chg F a w' :=
  ⟨hg.os.trans h.os, hg.tape.trans h.tape, hg.output.trans h.output, Nat.le_trans h.size hg.size, fun i hi hn => (hg.block i (Nat.lt_of_lt_of_le hi h.size) (fun e => by have := hk i e.symm; omega)).trans (h.block i hi hn)⟩
theorem below1 (w : World) (o : Obj) : Below w.heap.size w (w.alloc o) := (Below.refl _ _).alloc (Nat.le_refl _) _
theorem below2 (w : World) (o o' : Obj) : Below w.heap.size w ((w.alloc o).alloc o') := cbelow_two w o o'
theorem below3 (w : World) (o o' o'' : Obj) : Below w.heap.size w (((w.alloc o).alloc o').alloc o'') :=
  ((cbelow_two w o o').alloc (by simp; omega) _)
theorem blk11 (w : World) (t : TypeId) (cs : Array Value) : Blk (w.alloc (.cells cs t)) w.heap.size t cs := Blk.new w t cs
theorem blk21 (w : World) (t t' : TypeId) (cs cs' : Array Value) : Blk ((w.alloc (.cells cs t)).alloc (.cells cs' t')) w.heap.size t cs := (Blk.new w t cs).alloc _
theorem blk22 (w : World) (t t' : TypeId) (cs cs' : Array Value) : Blk ((w.alloc (.cells cs t)).alloc (.cells cs' t')) (w.heap.size + 1) t' cs' := cblk_top w cs cs' t t'
end
end Go.Proofs.Ytmdgmnaaopineaa
/- Numbers of 64 bits in a row of the call's own. -/
namespace Go.Proofs.Ytmdgmnaaopineaa
open Go.ChangeShapes Go.WideShapes Go.ChangeAt Go.RowKit
set_option linter.unusedVariables false
def uv (x : Nat) : Value := .int .u64 (x : Int)
theorem Src.u64 {w : World} {D : Dom} {A : Option Addr} {n c : Nat} {l : List Nat} (h : rpU64.sl w D A n c l) : Src w A n 1 (l.map uv) := by
  obtain ⟨hlen, _, _⟩ := Rp.sl_len h
  refine ⟨by simp [hlen], fun u hu => ?_, fun hp => ?_⟩
  · obtain ⟨x, _, rfl⟩ := List.mem_map.1 hu; rfl
  · obtain ⟨b, off, x, hA, _⟩ := u64_at (k := 0) h (by simpa [hlen] using hp)
    refine ⟨_, hA, fun j u hu => ?_⟩
    rw [List.getElem?_map] at hu
    cases hj : l[j]? with
    | none => rw [hj] at hu; cases hu
    | some y =>
      rw [hj] at hu
      injection hu with hu
      subst hu
      obtain ⟨b', off', x', hA', _, hx', hc, _⟩ := u64_at (k := j) h (by rw [← hlen]; exact (List.getElem?_eq_some_iff.1 hj).1)
      rw [hA] at hA'
      injection hA' with hA'
      injection hA' with h1 h2
      subst h1; subst h2
      rw [hj] at hx'
      injection hx' with hx'
      subst hx'
      rw [add_plain, hc]; rfl
theorem u64_lt {w : World} {D : Dom} {A : Option Addr} {n c : Nat} {l : List Nat} (h : rpU64.sl w D A n c l) : ∀ x ∈ l, x < 18446744073709551616 := fun x hx => by
  obtain ⟨i, hi⟩ := List.getElem?_of_mem hx
  obtain ⟨_, _, y, _, _, hy, _, hlt⟩ := u64_at h (k := i) (by have := (List.getElem?_eq_some_iff.1 hi).1; have := (Rp.sl_len h).1; omega)
  rw [hi] at hy
  injection hy with hy
  omega
theorem own_u64 {w : World} {base : Nat} {e : TypeId} {A : Option Addr} {n c : Nat} {l : List Nat} (h : w.ownsRow base e 1 (.slice A n c) n (l.map uv)) (hl : ∀ x ∈ l, x < 18446744073709551616) : rpU64.sl w (fun k => some k = (Value.slice A n c).ownBlock) A n c l := by
  have hlen : l.length = n := by have := h.1; simpa using this
  subst hlen
  rcases h.2 with ⟨hv, h0⟩ | ⟨g, cap, cur, hv, hg, hh, hnc, hcm, hcs, htake⟩
  · injection hv with h1 _ h3
    subst h1; subst h3
    rw [h0]
    obtain rfl := List.eq_nil_of_length_eq_zero h0
    exact Rp.sl_nil _ _ _ _ _ (by decide)
  · injection hv with h1 _ h3
    subst h1; subst h3
    refine ⟨_, _, rfl, hnc, hcm, fun _ => ⟨g, 0, rfl, rfl, fun i x hx => ⟨[uv x], ⟨rfl, hl x (List.mem_of_getElem? hx)⟩, fun j u hu => ?_⟩⟩⟩
    have hj : j = 0 := by
      rcases Nat.eq_zero_or_pos j with h0 | h0
      · exact h0
      · rw [List.getElem?_eq_none (by simp; omega)] at hu; cases hu
    subst hj
    simp only [List.getElem?_cons_zero, Option.some.injEq] at hu
    subst hu
    have hi : (l.map uv)[i]? = some (uv x) := by rw [List.getElem?_map, hx]; rfl
    rw [← htake, List.getElem?_take] at hi
    split at hi
    · have := cell_of_row w g (0 + i * rpU64.size + 0) cur e (0, 0) hh
      rw [this]
      have e1 : 0 + i * rpU64.size + 0 = i := by show 0 + i * 1 + 0 = i; omega
      rw [e1]
      simpa using hi
    · cases hi
theorem own_dom {w : World} {base : Nat} {e : TypeId} {size n : Nat} {v : Value} {xs : List Value} (h : w.ownsRow base e size v n xs) : ∀ k, some k = v.ownBlock → k < w.heap.size := fun k hk => (h.lt k hk.symm).2

end Go.Proofs.Ytmdgmnaaopineaa
/- Reading how many, and rising lists: the program. -/
namespace Go.Proofs.Ytmdgmnaaopineaa
open Go.ChangeShapes Go.WideShapes Go.ChangeAt Go.RowKit
set_option linter.unusedVariables false
theorem risF_lt {l : List UInt8} : ∀ {k p : Nat} {f : Flt} {acc : List Nat}, (∀ x ∈ acc, x < 18446744073709551616) → ∀ x ∈ (risF l k p f acc).1, x < 18446744073709551616
  | 0, p, f, acc, h => h
  | k + 1, p, f, acc, h => by
    unfold risF
    split
    · split
      · intro x hx; cases hx
      · rename_i h1
        exact risF_lt (fun x hx => by
          rcases List.mem_append.1 hx with hx | hx
          · exact h x hx
          · simp only [List.mem_singleton] at hx; subst hx; omega)
    · intro x hx; cases hx
theorem risF_bad1 {l : List UInt8} {k p : Nat} {f : Flt} {acc : List Nat} (h : (vrdF l p f).2.2.1 ≠ 0) : risF l (k + 1) p f acc = ([], (vrdF l p f).2) := by rw [risF, if_neg h]
theorem risF_over {l : List UInt8} {k p : Nat} {f : Flt} {acc : List Nat} (h : 18446744073709551616 ≤ nx acc[acc.length - 1]? (vrdF l p f).1) : risF l (k + 1) p f acc = ([], (vrdF l p f).2.1, failF (vrdF l p f).2.2 13 p) := by
  rw [risF]
  by_cases h0 : (vrdF l p f).2.2.1 = 0
  · rw [if_pos h0, if_pos h]
  · rw [if_neg h0]
    unfold failF
    rw [if_neg h0]
theorem Chg.more' {g : Nat} {w2 w4 w5 : World} {base : Nat} {e : TypeId} {size n : Nat} {v : Value} {xs : List Value} (h : Chg (fun k => some k = v.ownBlock) w4 w5) (ho : w4.ownsRow base e size v n xs) (hb : w2.heap.size ≤ base) (hz : Chg (one g) w2 w4) : Chg (one g) w2 w5 :=
  ⟨h.os.trans hz.os, h.tape.trans hz.tape, h.output.trans hz.output, Nat.le_trans hz.size h.size, fun k hk hn => (h.block k (Nat.lt_of_lt_of_le hk hz.size) (fun e => by have := (ho.lt k e.symm).1; omega)).trans (hz.block k hk hn)⟩
section
variable {w : World} {D : Dom} {g : Nat} {l : List UInt8} {p : Nat} {f : Flt}
set_option maxRecDepth 100000 in
theorem vint_at (h : Rd w D g l p f) (hf : OkF f) (hl : l.length ≤ 1000000000) (m : Nat) (hm : m ≤ 1000) :
    Calls Try.prog 115 #[.pointer (some ⟨g, 0, none⟩), .int .i64 (m : Int)] w fun e w' => e = .returned (.int .i64 ((mostF l p f m).1 : Int)) ∧ Rd w' D g l (mostF l p f m).2.1 (mostF l p f m).2.2 ∧ Chg (one g) w w' := by
  have HV := Lib.hid (vmost_any h hf hl m)
  have hle := mostF_le (l := l) (p := p) (f := f) (m := m)
  generalize mostF l p f m = r at *
  obtain ⟨x, q, F⟩ := r
  simp only at HV hle ⊢
  have hc1 : IntKind.u64.wrap (m : Int) = (m : Int) := IntWalk.u64_in _ (by omega)
  have hc2 : IntKind.i64.wrap (x : Int) = (x : Int) := IntWalk.i64_in _ (by omega)
  clear h hf hl
  go_enter Try.func115, Try.ntmps115
  go_wp2_with fail
  refine HV.out.mono ?_; rintro e w1 ⟨rfl, hr, hc⟩
  have HR := Lib.hid hr
  have HC := Lib.hid hc
  clear hr hc
  go_wp2_with fail
  go_ret
  exact ⟨rfl, HR.out, HC.out⟩
set_option maxRecDepth 100000 in
theorem many_at (h : Rd w D g l p f) (hf : OkF f) (hl : l.length ≤ 1000000000) (m : Nat) (hm : m ≤ 1000) :
    Calls Try.prog 93 #[.pointer (some ⟨g, 0, none⟩), .int .i64 (m : Int)] w fun e w' => e = .returned (.int .i64 ((manyF l p f m).1 : Int)) ∧ Rd w' D g l (manyF l p f m).2.1 (manyF l p f m).2.2 ∧ Chg (one g) w w' := by
  have HA := Lib.hid (cat_at h)
  have HV := Lib.hid (vint_at h hf hl m hm)
  have hle := mostF_le (l := l) (p := p) (f := f) (m := m)
  unfold manyF
  generalize mostF l p f m = r at *
  obtain ⟨x, q, F⟩ := r
  simp only at HV hle ⊢
  clear h hf hl
  by_cases h0 : x = 0
  · rw [if_pos h0]
    subst h0
    go_enter Try.func93, Try.ntmps93
    go_wp2_with fail
    refine HA.out.mono ?_; rintro e w1 ⟨rfl, rfl⟩
    go_wp2_with fail
    refine HV.out.mono ?_; rintro e w1 ⟨rfl, hr, hc⟩
    have HR := Lib.hid hr
    have HC := Lib.hid hc
    clear hr hc
    go_wp2_with fail
    refine (cfail_at HR.out 3 _).mono ?_; rintro e w2 ⟨rfl, hr, hc⟩
    have HR2 := Lib.hid hr
    have HC2 := Lib.hid (HC.out.trans hc)
    clear hr hc
    go_wp2_with fail
    go_ret
    exact ⟨rfl, HR2.out, HC2.out⟩
  · rw [if_neg h0]
    have hq : ((x : Int) == 0) = false := by simpa using h0
    have hq2 : (x == 0) = false := by simpa using h0
    clear h0
    go_enter Try.func93, Try.ntmps93
    go_wp2_with fail
    refine HA.out.mono ?_; rintro e w1 ⟨rfl, rfl⟩
    go_wp2_with fail
    refine HV.out.mono ?_; rintro e w1 ⟨rfl, hr, hc⟩
    have HR := Lib.hid hr
    have HC := Lib.hid hc
    clear hr hc
    go_wp2_with fail
    go_ret
    exact ⟨rfl, HR.out, HC.out⟩
def RisIs (w : World) (D : Dom) (g : Nat) (l : List UInt8) (r : List Nat × Nat × Flt) (e : Ending) (w' : World) : Prop :=
  ∃ A c, e = .returned (.slice A r.1.length c) ∧ w'.ownsRow w.heap.size 22 1 (.slice A r.1.length c) r.1.length (r.1.map uv) ∧ Rd w' D g l r.2.1 r.2.2 ∧ Chg (one g) w w'
set_option maxRecDepth 100000 in
set_option maxHeartbeats 4000000 in
theorem rising_at (h : Rd w D g l p f) (hf : OkF f) (hl : l.length ≤ 1000000000) (n : Nat) (hn : n ≤ 1000) :
    Calls Try.prog 131 #[.pointer (some ⟨g, 0, none⟩), .int .i64 (n : Int)] w (RisIs w D g l (risF l n p f [])) := by
  obtain ⟨R, hR⟩ : ∃ R, R = risF l n p f [] := ⟨_, rfl⟩
  rw [← hR]
  have HR0 := Lib.hid hR
  have HRD := Lib.hid h
  have HOK := Lib.hid hf
  have hgl := h.lt
  have hmx : (if (n : Int) < 0 then (0 : Int) else (n : Int)) = (n : Int) := if_neg (by omega)
  clear h hf hR
  go_enter Try.func131, Try.ntmps131
  go_wp2_with fail
  go_loopw [5, 12] (fun o i wr => ∃ (k q : Nat) (F : Flt) (acc : List Nat) (A : Option Addr) (c : Nat), k ≤ n ∧ i = .int .i64 k ∧ o = .slice A k c ∧ acc.length = k ∧ Hid (OkF F) ∧ Hid (∀ x ∈ acc, x < 18446744073709551616) ∧ Hid (wr.ownsRow w.heap.size 22 1 (.slice A k c) k (acc.map uv)) ∧ Hid (Rd wr D g l q F) ∧ Hid (Chg (one g) w wr) ∧ Hid (risF l (n - k) q F acc = R)) (fun _ i _ => n - (intOf i).toNat)
  case atStart => exact ⟨0, p, f, [], none, 0, by omega, rfl, rfl, rfl, HOK.out, (fun x hx => by cases hx), World.ownsRow_nil _ _ _ _, HRD.out, Chg.refl _ _, HR0.out.symm⟩
  case round =>
    obtain ⟨k, q, F, acc, A, c, hk, rfl, rfl, hacc, hokF, hlt64, hown, hrd, hch, heq⟩ := hrel
    have HACC := Lib.hid hacc
    clear hacc
    have hzr := hch.out.size
    by_cases hkn : k < n
    case neg =>
      have hd : decide ((k : Int) < (n : Int)) = false := by simp; omega
      have hd2 : decide (k < n) = false := by simpa using hkn
      have HKN := Lib.hid (show n - k = 0 by omega)
      clear hkn
      go_wp2_with fail
      go_ret
      have hh := heq.out
      rw [HKN.out] at hh
      subst hh
      have hal := HACC.out
      subst hal
      exact ⟨A, c, rfl, hown.out, hrd.out, hch.out⟩
    case pos =>
      have hd : decide ((k : Int) < (n : Int)) = true := by simp; omega
      have hd2 : decide (k < n) = true := by simpa using hkn
      have HAT := Lib.hid (cat_at hrd.out)
      have HV := Lib.hid (vread_any hrd.out hokF.out hl)
      have hstep : n - k = (n - (k + 1)) + 1 := by omega
      have heq2 := heq.out
      rw [hstep] at heq2
      have hbad := risF_bad1 (l := l) (k := n - (k + 1)) (p := q) (f := F) (acc := acc)
      have hgood := risF_step (l := l) (k := n - (k + 1)) (p := q) (f := F) (acc := acc)
      have hover := risF_over (l := l) (k := n - (k + 1)) (p := q) (f := F) (acc := acc)
      have hx64 := vrdF_lt l q F
      have hx0 := @vrdF_fail0 l q F
      have hok2 := vrdF_ok (l := l) (p := q) hokF.out
      have hqle := (vrdF_le (l := l) (p := q) (f := F) hrd.out.le).1
      rw [heq2] at hbad hgood hover
      generalize vrdF l q F = r at *
      obtain ⟨x, q2, F2⟩ := r
      simp only at HV hbad hgood hover hx64 hx0 hok2 hqle
      have HOK2 := Lib.hid hok2
      have HBAD := Lib.hid hbad
      have HGOOD := Lib.hid hgood
      have HOVER := Lib.hid hover
      have HX64 := Lib.hid hx64
      clear hbad hgood hover heq2 hstep hx64 hok2 heq
      by_cases hk0 : k = 0
      case pos =>
        subst hk0
        have hnx : nx acc[acc.length - 1]? x = x := by
          obtain rfl := List.eq_nil_of_length_eq_zero HACC.out
          rfl
        have HNX := Lib.hid hnx
        have HY64 : Hid (x < 18446744073709551616) := HX64.out
        clear hnx
        by_cases hF : F2.1 = 0
        case pos =>
          have hq : (F2.1 == 0) = true := by simpa using hF
          have HGD : Hid (R = risF l (n - (0 + 1)) q2 F2 (acc ++ [x])) := by
            have := HGOOD.out hF (by rw [HNX.out]; have := HX64.out; omega)
            rw [HNX.out] at this
            exact this
          clear hF
          go_wp2_with fail
          refine HAT.out.mono ?_; rintro e w1 ⟨rfl, rfl⟩
          go_wp2_with fail
          refine HV.out.mono ?_; rintro e w2 ⟨rfl, hr, hc⟩
          have HR2 := Lib.hid hr
          have HC2 := Lib.hid (hch.out.trans hc)
          have HOW2 := Lib.hid (chO hown.out hc (fun j hj e => by have e : j = g := e; have := (hown.out.lt j hj).1; omega))
          clear hr hc
          go_wp2_with fail
          have HG := Lib.hid (cgood_at HR2.out)
          refine HG.out.mono ?_; rintro e w4 ⟨rfl, hb⟩
          have HR4 := Lib.hid (HR2.out.below hb)
          have HC4 := Lib.hid (HC2.out.trans (Chg.of_pure hb _))
          have HOW4 := Lib.hid (keepO HOW2.out hb)
          clear hb
          go_wp2_with (at_builtin; refine wpList_app rfl (.tmp 45) (.tmp 47) _ rfl elem64 rfl (HOW4.out.alloc _) rfl (Src.new w4 (.int .u64 ((x : Int))) _ rfl) (by unfold maxLen; omega) (by omega) (by have := HC4.out.size; simp; omega) ?_; intro A5 c5 w5 ho5 hg5 hat5; have HO5 := Lib.hid ho5; have HG5 := Lib.hid (show w4.grownBy w5 _ from ⟨hg5.os, hg5.tape, hg5.output, by have := hg5.size; simp at this; omega, fun j hj hn => (hg5.block j (by simp; omega) hn).trans (Below.heap_alloc _ _ _ hj)⟩); clear ho5 hg5 hat5)
          have hgn : some g ≠ (Value.slice A 0 c).ownBlock := fun e => by have := (HOW4.out.lt g e.symm).1; omega
          go_roundw
          case rel =>
            refine ⟨0 + 1, q2, F2, acc ++ [x], A5, c5, by omega, by go_num, rfl, by rw [List.length_append, HACC.out]; rfl, HOK2.out, ?_, ?_, ?_, ?_, ?_⟩
            · intro z hz
              rcases List.mem_append.1 hz with hz | hz
              · exact hlt64.out z hz
              · simp only [List.mem_singleton] at hz
                subst hz
                exact HY64.out
            · have := HO5.out
              rw [List.map_append]
              exact this
            · exact HR4.out.keep (fun j hj => HG5.out.block j (by rcases hj with rfl | hj; exact HR4.out.lt; exact HR4.out.dom j hj) (fun e => by
                rcases hj with rfl | hj
                · exact hgn e
                · have h1 := (HOW4.out.lt j e.symm).1
                  have h2 := HRD.out.dom j hj
                  omega)) HG5.out.size
            · exact (Chg.of_grown HG5.out).more' HOW4.out (Nat.le_refl _) HC4.out
            · exact HGD.out.symm
          case measure => simp [intOf]; omega
        case neg =>
          have hq : (F2.1 == 0) = false := by simpa using hF
          have HBD : Hid (R = ([], q2, F2)) := HBAD.out hF
          clear hF
          go_wp2_with fail
          refine HAT.out.mono ?_; rintro e w1 ⟨rfl, rfl⟩
          go_wp2_with fail
          refine HV.out.mono ?_; rintro e w2 ⟨rfl, hr, hc⟩
          have HR2 := Lib.hid hr
          have HC2 := Lib.hid (hch.out.trans hc)
          have HOW2 := Lib.hid (chO hown.out hc (fun j hj e => by have e : j = g := e; have := (hown.out.lt j hj).1; omega))
          clear hr hc
          go_wp2_with fail
          have HG := Lib.hid (cgood_at HR2.out)
          refine HG.out.mono ?_; rintro e w4 ⟨rfl, hb⟩
          have HR4 := Lib.hid (HR2.out.below hb)
          have HC4 := Lib.hid (HC2.out.trans (Chg.of_pure hb _))
          have HOW4 := Lib.hid (keepO HOW2.out hb)
          clear hb
          go_wp2_with fail
          go_ret
          have hR := HBD.out
          subst hR
          exact ⟨none, 0, rfl, World.ownsRow_nil _ _ _ _, HR4.out, HC4.out⟩
      case neg =>
        have hkp : 0 < k := by omega
        have hkI : (1 : Int) ≤ (k : Int) := by omega
        have hkI0 : (0 : Int) < (k : Int) := by omega
        have hd3 : decide ((0 : Int) < (k : Int)) = true := by simp; omega
        obtain ⟨a, ha⟩ : ∃ a, acc[k - 1]? = some a := ⟨_, List.getElem?_eq_getElem (by have := HACC.out; omega)⟩
        have ha64 : a < 18446744073709551616 := hlt64.out a (List.mem_of_getElem? ha)
        have HA := Lib.hid ha
        have hnx : nx acc[acc.length - 1]? x = a + x + 1 := by rw [HACC.out, ha]; rfl
        have HNX := Lib.hid hnx
        have hx64 := HX64.out
        clear hnx ha
        by_cases hov : 18446744073709551616 ≤ a + x + 1
        case neg =>
          have HY64 : Hid (a + x + 1 < 18446744073709551616) := (by omega : a + x + 1 < 18446744073709551616)
          have s1 : IntKind.u64.wrap ((a : Int) + 1) = (a : Int) + 1 := IntWalk.u64_in _ (by omega)
          have s2 : IntKind.u64.wrap ((x : Int) + ((a : Int) + 1)) = (x : Int) + ((a : Int) + 1) := IntWalk.u64_in _ (by omega)
          have t1 : (((a : Int) + 1) == 0) = false := by simp; omega
          have t2 : decide ((x : Int) + ((a : Int) + 1) < (x : Int)) = false := by simp; omega
          by_cases hF : F2.1 = 0
          case pos =>
            have hq : (F2.1 == 0) = true := by simpa using hF
            have HGD : Hid (R = risF l (n - (k + 1)) q2 F2 (acc ++ [a + x + 1])) := by
              have := HGOOD.out hF (by rw [HNX.out]; exact hov)
              rw [HNX.out] at this
              exact this
            have hyy : (x : Int) + ((a : Int) + 1) = ((a + x + 1 : Nat) : Int) := by omega
            have HYY := Lib.hid hyy
            clear hF hyy
            go_wp2_with fail
            refine HAT.out.mono ?_; rintro e w1 ⟨rfl, rfl⟩
            go_wp2_with fail
            refine HV.out.mono ?_; rintro e w2 ⟨rfl, hr, hc⟩
            have HR2 := Lib.hid hr
            have HC2 := Lib.hid (hch.out.trans hc)
            have HOW2 := Lib.hid (chO hown.out hc (fun j hj e => by have e : j = g := e; have := (hown.out.lt j hj).1; omega))
            clear hr hc
            obtain ⟨bo, hAo, hbo, _, _, hco, _⟩ := own_block HOW2.out hkp
            have hcell := hco (k - 1) (uv a) (by rw [List.getElem?_map, HA.out]; rfl)
            unfold uv at hcell
            have HAo := Lib.hid hAo
            clear hco
            subst hAo
            go_wp2_with fail
            have HG := Lib.hid (cgood_at HR2.out)
            refine HG.out.mono ?_; rintro e w4 ⟨rfl, hb⟩
            have HR4 := Lib.hid (HR2.out.below hb)
            have HC4 := Lib.hid (HC2.out.trans (Chg.of_pure hb _))
            have HOW4 := Lib.hid (keepO HOW2.out hb)
            clear hb
            go_wp2_with (at_builtin; refine wpList_app rfl (.tmp 45) (.tmp 47) _ rfl elem64 rfl (HOW4.out.alloc _) rfl (Src.new w4 (.int .u64 ((x : Int) + ((a : Int) + 1))) _ rfl) (by unfold maxLen; omega) (by omega) (by have := HC4.out.size; simp; omega) ?_; intro A5 c5 w5 ho5 hg5 hat5; have HO5 := Lib.hid ho5; have HG5 := Lib.hid (show w4.grownBy w5 _ from ⟨hg5.os, hg5.tape, hg5.output, by have := hg5.size; simp at this; omega, fun j hj hn => (hg5.block j (by simp; omega) hn).trans (Below.heap_alloc _ _ _ hj)⟩); clear ho5 hg5 hat5)
            have hgn : some g ≠ (Value.slice (some ⟨bo, 0, none⟩) k c).ownBlock := fun e => by have := (HOW4.out.lt g e.symm).1; omega
            go_roundw
            case rel =>
              refine ⟨k + 1, q2, F2, acc ++ [a + x + 1], A5, c5, by omega, by go_num, rfl, by rw [List.length_append, HACC.out]; rfl, HOK2.out, ?_, ?_, ?_, ?_, ?_⟩
              · intro z hz
                rcases List.mem_append.1 hz with hz | hz
                · exact hlt64.out z hz
                · simp only [List.mem_singleton] at hz
                  subst hz
                  exact HY64.out
              · have := HO5.out
                rw [HYY.out] at this
                rw [List.map_append]
                exact this
              · exact HR4.out.keep (fun j hj => HG5.out.block j (by rcases hj with rfl | hj; exact HR4.out.lt; exact HR4.out.dom j hj) (fun e => by
                  rcases hj with rfl | hj
                  · exact hgn e
                  · have h1 := (HOW4.out.lt j e.symm).1
                    have h2 := HRD.out.dom j hj
                    omega)) HG5.out.size
              · exact (Chg.of_grown HG5.out).more' HOW4.out (Nat.le_refl _) HC4.out
              · exact HGD.out.symm
            case measure => simp [intOf]; omega
          case neg =>
            have hq : (F2.1 == 0) = false := by simpa using hF
            have HBD : Hid (R = ([], q2, F2)) := HBAD.out hF
            clear hF
            go_wp2_with fail
            refine HAT.out.mono ?_; rintro e w1 ⟨rfl, rfl⟩
            go_wp2_with fail
            refine HV.out.mono ?_; rintro e w2 ⟨rfl, hr, hc⟩
            have HR2 := Lib.hid hr
            have HC2 := Lib.hid (hch.out.trans hc)
            have HOW2 := Lib.hid (chO hown.out hc (fun j hj e => by have e : j = g := e; have := (hown.out.lt j hj).1; omega))
            clear hr hc
            obtain ⟨bo, hAo, hbo, _, _, hco, _⟩ := own_block HOW2.out hkp
            have hcell := hco (k - 1) (uv a) (by rw [List.getElem?_map, HA.out]; rfl)
            unfold uv at hcell
            have HAo := Lib.hid hAo
            clear hco
            subst hAo
            go_wp2_with fail
            have HG := Lib.hid (cgood_at HR2.out)
            refine HG.out.mono ?_; rintro e w4 ⟨rfl, hb⟩
            have HR4 := Lib.hid (HR2.out.below hb)
            have HC4 := Lib.hid (HC2.out.trans (Chg.of_pure hb _))
            have HOW4 := Lib.hid (keepO HOW2.out hb)
            clear hb
            go_wp2_with fail
            go_ret
            have hR := HBD.out
            subst hR
            exact ⟨none, 0, rfl, World.ownsRow_nil _ _ _ _, HR4.out, HC4.out⟩
        case pos =>
          have HOV : Hid (R = ([], q2, failF F2 13 q)) := HOVER.out (by rw [HNX.out]; exact hov)
          obtain ⟨FF, hFF⟩ : ∃ FF, FF = failF F2 13 (q : Int) := ⟨_, rfl⟩
          have hFFb : (FF.1 == 0) = false := by
            have := failF_bad (f := F2) (c := 13) (a := (q : Int)) (by decide)
            rw [← hFF] at this
            simpa using this
          have HFF := Lib.hid hFF
          rw [← hFF] at HOV
          clear hFF
          by_cases hm : a = 18446744073709551615
          case pos =>
            have s1 : IntKind.u64.wrap ((a : Int) + 1) = 0 := by rw [hm]; rfl
            have t1 : ((0 : Int) == 0) = true := rfl
            have s2 : IntKind.u64.wrap (x : Int) = (x : Int) := IntWalk.u64_in _ (by omega)
            clear hm hov
            go_wp2_with fail
            refine HAT.out.mono ?_; rintro e w1 ⟨rfl, rfl⟩
            go_wp2_with fail
            refine HV.out.mono ?_; rintro e w2 ⟨rfl, hr, hc⟩
            have HR2 := Lib.hid hr
            have HC2 := Lib.hid (hch.out.trans hc)
            have HOW2 := Lib.hid (chO hown.out hc (fun j hj e => by have e : j = g := e; have := (hown.out.lt j hj).1; omega))
            clear hr hc
            obtain ⟨bo, hAo, hbo, _, _, hco, _⟩ := own_block HOW2.out hkp
            have hcell := hco (k - 1) (uv a) (by rw [List.getElem?_map, HA.out]; rfl)
            unfold uv at hcell
            have HAo := Lib.hid hAo
            clear hco
            subst hAo
            go_wp2_with fail
            refine (cfail_at HR2.out 13 _).mono ?_; rintro e w3 ⟨rfl, hr, hc⟩
            rw [← HFF.out] at hr
            have HR3 := Lib.hid hr
            have HC3 := Lib.hid (HC2.out.trans hc)
            have HOW3 := Lib.hid (chO HOW2.out hc (fun j hj e => by have e : j = g := e; have := (HOW2.out.lt j hj).1; omega))
            clear hr hc
            go_wp2_with fail
            have HG := Lib.hid (cgood_at HR3.out)
            refine HG.out.mono ?_; rintro e w4 ⟨rfl, hb⟩
            have HR4 := Lib.hid (HR3.out.below hb)
            have HC4 := Lib.hid (HC3.out.trans (Chg.of_pure hb _))
            have HOW4 := Lib.hid (keepO HOW3.out hb)
            clear hb
            go_wp2_with fail
            go_ret
            have hR := HOV.out
            subst hR
            exact ⟨none, 0, rfl, World.ownsRow_nil _ _ _ _, HR4.out, HC4.out⟩
          case neg =>
            have s1 : IntKind.u64.wrap ((a : Int) + 1) = (a : Int) + 1 := IntWalk.u64_in _ (by omega)
            have s2 : IntKind.u64.wrap ((x : Int) + ((a : Int) + 1)) = (x : Int) + ((a : Int) + 1) - 18446744073709551616 := by rw [IntKind.wrap_u64]; omega
            have t1 : (((a : Int) + 1) == 0) = false := by simp; omega
            have t2 : decide ((x : Int) + ((a : Int) + 1) - 18446744073709551616 < (x : Int)) = true := by simp; omega
            clear hm hov
            go_wp2_with fail
            refine HAT.out.mono ?_; rintro e w1 ⟨rfl, rfl⟩
            go_wp2_with fail
            refine HV.out.mono ?_; rintro e w2 ⟨rfl, hr, hc⟩
            have HR2 := Lib.hid hr
            have HC2 := Lib.hid (hch.out.trans hc)
            have HOW2 := Lib.hid (chO hown.out hc (fun j hj e => by have e : j = g := e; have := (hown.out.lt j hj).1; omega))
            clear hr hc
            obtain ⟨bo, hAo, hbo, _, _, hco, _⟩ := own_block HOW2.out hkp
            have hcell := hco (k - 1) (uv a) (by rw [List.getElem?_map, HA.out]; rfl)
            unfold uv at hcell
            have HAo := Lib.hid hAo
            clear hco
            subst hAo
            go_wp2_with fail
            refine (cfail_at HR2.out 13 _).mono ?_; rintro e w3 ⟨rfl, hr, hc⟩
            rw [← HFF.out] at hr
            have HR3 := Lib.hid hr
            have HC3 := Lib.hid (HC2.out.trans hc)
            have HOW3 := Lib.hid (chO HOW2.out hc (fun j hj e => by have e : j = g := e; have := (HOW2.out.lt j hj).1; omega))
            clear hr hc
            go_wp2_with fail
            have HG := Lib.hid (cgood_at HR3.out)
            refine HG.out.mono ?_; rintro e w4 ⟨rfl, hb⟩
            have HR4 := Lib.hid (HR3.out.below hb)
            have HC4 := Lib.hid (HC3.out.trans (Chg.of_pure hb _))
            have HOW4 := Lib.hid (keepO HOW3.out hb)
            clear hb
            go_wp2_with fail
            go_ret
            have hR := HOV.out
            subst hR
            exact ⟨none, 0, rfl, World.ownsRow_nil _ _ _ _, HR4.out, HC4.out⟩
end
end Go.Proofs.Ytmdgmnaaopineaa
/- Numbers written, one behind the other. -/
namespace Go.Proofs.Ytmdgmnaaopineaa
open Go.ChangeShapes Go.WideShapes Go.ChangeAt Go.RowKit
set_option linter.unusedVariables false
theorem own_mono {w : World} {base base' : Nat} {e : TypeId} {size : Nat} {v : Value} {n : Nat} {xs : List Value} (h : w.ownsRow base e size v n xs) (hb : base' ≤ base) : w.ownsRow base' e size v n xs := by
  refine ⟨h.1, ?_⟩
  rcases h.2 with h0 | ⟨g, cap, cur, hv, hg, hr⟩
  · exact .inl h0
  · exact .inr ⟨g, cap, cur, hv, Nat.le_trans hb hg, hr⟩
/-- What a writer holds behind some pieces. -/
def putsB (most : Int) : List UInt8 × Int → List (List UInt8) → List UInt8 × Int
  | s, [] => s
  | s, x :: xs => putsB most (putB most s.1 s.2 x) xs
theorem putsB_append (most : Int) : ∀ (s : List UInt8 × Int) (xs ys : List (List UInt8)), putsB most s (xs ++ ys) = putsB most (putsB most s xs) ys
  | s, [], ys => rfl
  | s, x :: xs, ys => by rw [List.cons_append, putsB, putsB, putsB_append most _ xs ys]
theorem putsB_snoc (most : Int) (s : List UInt8 × Int) (xs : List (List UInt8)) (y : List UInt8) : putsB most s (xs ++ [y]) = putB most (putsB most s xs).1 (putsB most s xs).2 y := by
  rw [putsB_append]; rfl
theorem putsB_fit {most : Int} : ∀ {b : List UInt8} {xs : List (List UInt8)}, ((b ++ xs.flatten).length : Int) ≤ most → putsB most (b, 0) xs = (b ++ xs.flatten, 0)
  | b, [], h => by simp [putsB]
  | b, x :: xs, h => by
    have hl : ((b ++ x) ++ xs.flatten) = b ++ (x :: xs).flatten := by simp
    have e : putB most b 0 x = (b ++ x, 0) := by
      unfold putB
      rw [if_neg (by simp), if_neg (by rw [List.flatten_cons] at h; simp only [List.length_append] at h; omega)]
    rw [putsB, e, putsB_fit (by rw [hl]; exact h), hl]
theorem putsB_bad {most : Int} {b : List UInt8} {code : Int} (h : code ≠ 0) : ∀ xs : List (List UInt8), putsB most (b, code) xs = (b, code)
  | [] => rfl
  | x :: xs => by
    have e : putB most b code x = (b, code) := by unfold putB; rw [if_pos h]
    rw [putsB, e, putsB_bad h xs]
theorem putB_len (most : Int) (b : List UInt8) (code : Int) (x : List UInt8) : (putB most b code x).1.length ≤ b.length + x.length := by
  unfold putB
  split
  · exact Nat.le_add_right _ _
  · split
    · exact Nat.le_add_right _ _
    · exact Nat.le_of_eq List.length_append
theorem putsB_len (most : Int) : ∀ (s : List UInt8 × Int) (xs : List (List UInt8)), (putsB most s xs).1.length ≤ s.1.length + xs.flatten.length
  | s, [] => by simp [putsB]
  | s, x :: xs => by
    have h1 := putB_len most s.1 s.2 x
    have h2 := putsB_len most (putB most s.1 s.2 x) xs
    rw [putsB, List.flatten_cons, List.length_append]
    omega
/-- **Whatever stays under the bound is written, or the first that does not sets the code.** -/
theorem putsB_code {most : Int} : ∀ {b : List UInt8} {xs : List (List UInt8)}, (putsB most (b, 0) xs).2 = 0 → putsB most (b, 0) xs = (b ++ xs.flatten, 0)
  | b, [], h => by simp [putsB]
  | b, x :: xs, h => by
    by_cases hl : most < b.length + x.length
    · have e : putB most b 0 x = (b, 2) := by unfold putB; rw [if_neg (by simp), if_pos hl]
      rw [putsB, e, putsB_bad (by decide)] at h
      exact absurd h (by simp)
    · have e : putB most b 0 x = (b ++ x, 0) := by unfold putB; rw [if_neg (by simp), if_neg hl]
      rw [putsB, e] at h ⊢
      rw [putsB_code h]
      simp
theorem vpieces_len : ∀ xs : List Nat, (∀ x ∈ xs, x < 18446744073709551616) → ((xs.map vbytes).flatten).length ≤ 10 * xs.length
  | [], _ => by simp
  | x :: xs, h => by
    have h1 := vbytes_10 (h x (by simp))
    have h2 := vpieces_len xs (fun y hy => h y (by simp [hy]))
    simp only [List.map_cons, List.flatten_cons, List.length_append, List.length_cons]
    omega
section
variable {w : World} {F : Dom} {g : Nat} {most : Int} {b : List UInt8} {code : Int}
theorem vput_at (h : Pen w F g most b code) (h0 : 0 ≤ most) (h1 : most ≤ 9223372036854775807) (hb : b.length ≤ 1000000000) (x : Nat) (hx : x < 18446744073709551616) :
    Calls Try.prog 104 #[.pointer (some ⟨g, 0, none⟩), .int .u64 (x : Int)] w fun e w' => e = .returned (.tuple #[]) ∧ ∃ F', Pen w' F' g most (putB most b code (vbytes x)).1 (putB most b code (vbytes x)).2 ∧ Chg F w w' ∧ (∀ k, F' k → F k ∨ w.heap.size ≤ k) := by
  have HP := Lib.hid h
  have HX := Lib.hid hx
  have hl10 := vbytes_10 hx
  clear h hx
  go_enter Try.func104, Try.ntmps104
  go_wp2_with fail
  refine (vbytes_any x HX.out).mono ?_; rintro e w1 ⟨A, n, c, rfl, ho, hb1⟩
  have HB := Lib.hid hb1
  have HO := Lib.hid ho
  have hnl : n = (vbytes x).length := by have := ho.1; simpa using this.symm
  have hn : n ≤ 1000000000 := by omega
  clear hb1 ho hnl
  go_wp2_with fail
  refine (put_at (HP.out.below HB.out) h0 h1 hb (own_bytes HO.out) (fun k hk => own_lt HO.out hk) hn).mono ?_; rintro e w2 ⟨rfl, F2, hp2, hch2, hF2⟩
  have HP2 := Lib.hid hp2
  have HCH := Lib.hid hch2
  have HF2 := Lib.hid hF2
  clear hp2 hch2 hF2
  go_wp2_with fail
  go_end0
  refine ⟨rfl, F2, HP2.out, (Chg.of_pure HB.out F).trans HCH.out, fun k hk => ?_⟩
  rcases HF2.out k hk with h | h
  · exact .inl h
  · exact .inr (Nat.le_trans HB.out.size h)
end
end Go.Proofs.Ytmdgmnaaopineaa
/- Reading a set: the program. -/
namespace Go.Proofs.Ytmdgmnaaopineaa
open Go.ChangeShapes Go.WideShapes Go.ChangeAt Go.RowKit
set_option linter.unusedVariables false
theorem setF_bad {l : List UInt8} {p : Nat} {f : Flt} {others : List (List Nat)} (h : (risF l (manyF l p f 8).1 (manyF l p f 8).2.1 (manyF l p f 8).2.2 []).2.2.1 ≠ 0) : setF l p f others = ([], (risF l (manyF l p f 8).1 (manyF l p f 8).2.1 (manyF l p f 8).2.2 []).2) := by
  unfold setF; simp only; rw [if_neg h]
theorem setF_big {l : List UInt8} {p : Nat} {f : Flt} {others : List (List Nat)} {x : List Nat} {q : Nat} {F : Flt} (h : risF l (manyF l p f 8).1 (manyF l p f 8).2.1 (manyF l p f 8).2.2 [] = (x, q, F)) (h0 : F.1 = 0) (h1 : 4294967295 < x.getD (x.length - 1) 0) : setF l p f others = (x, q, failF F 3 ((manyF l p f 8).2.1 : Nat)) := by
  unfold setF; simp only; rw [h]; simp only; rw [if_pos h0, if_pos h1]
theorem setF_fine {l : List UInt8} {p : Nat} {f : Flt} {others : List (List Nat)} {x : List Nat} {q : Nat} {F : Flt} (h : risF l (manyF l p f 8).1 (manyF l p f 8).2.1 (manyF l p f 8).2.2 [] = (x, q, F)) (h0 : F.1 = 0) (h1 : ¬ 4294967295 < x.getD (x.length - 1) 0) (h2 : Apart x others) : setF l p f others = (x, q, F) := by
  unfold setF; simp only; rw [h]; simp only; rw [if_pos h0, if_neg h1, if_pos h2]
theorem setF_met {l : List UInt8} {p : Nat} {f : Flt} {others : List (List Nat)} {x : List Nat} {q : Nat} {F : Flt} (h : risF l (manyF l p f 8).1 (manyF l p f 8).2.1 (manyF l p f 8).2.2 [] = (x, q, F)) (h0 : F.1 = 0) (h1 : ¬ 4294967295 < x.getD (x.length - 1) 0) (h2 : ¬ Apart x others) : setF l p f others = (x, q, failF F 13 ((manyF l p f 8).2.1 : Nat)) := by
  unfold setF; simp only; rw [h]; simp only; rw [if_pos h0, if_neg h1, if_neg h2]
section
variable {w : World} {D Do : Dom} {g : Nat} {l : List UInt8} {p : Nat} {f : Flt}
set_option maxRecDepth 100000 in
set_option maxHeartbeats 2000000 in
theorem readSet_at (h : Rd w D g l p f) (hf : OkF f) (hl : l.length ≤ 1000000000) {Ao : Option Addr} {no co : Nat} {others : List (List Nat)} (ho : (rpSlice rpU64).sl w Do Ao no co others) (hDo : ∀ k, Do k → k < w.heap.size) (hDg : ¬ Do g) :
    Calls Try.prog 94 #[.pointer (some ⟨g, 0, none⟩), .slice Ao no co] w (RisIs w D g l (setF l p f others)) := by
  have HM := Lib.hid (many_at h hf hl 8 (by decide))
  have hml := manyF_le (l := l) (p := p) (f := f) (m := 8)
  have hmok := manyF_ok (l := l) (p := p) (m := 8) hf
  have hminv := manyF_inv (l := l) (p := p) (f := f) (m := 8)
  have hbad := setF_bad (l := l) (p := p) (f := f) (others := others)
  have hbig := @setF_big l p f others
  have hfine := @setF_fine l p f others
  have hmet := @setF_met l p f others
  generalize setF l p f others = R at *
  generalize manyF l p f 8 = m at *
  obtain ⟨mn, mq, mf⟩ := m
  simp only at HM hml hmok hminv hbad hbig hfine hmet
  have HRR : Hid (∀ w, Rd w D g l mq mf → Calls Try.prog 131 #[.pointer (some ⟨g, 0, none⟩), .int .i64 (mn : Int)] w (RisIs w D g l (risF l mn mq mf []))) := fun w h => rising_at h hmok hl mn (by omega)
  have hinv := risF_inv (l := l) (k := mn) (p := mq) (f := mf) (acc := [])
  have hr64 := risF_lt (l := l) (k := mn) (p := mq) (f := mf) (acc := []) (fun x hx => by cases hx)
  generalize risF l mn mq mf [] = r at *
  obtain ⟨x, q, F⟩ := r
  simp only at HRR hinv hbad hr64
  obtain ⟨nn, hnn⟩ : ∃ nn, nn = x.length := ⟨_, rfl⟩
  have HRS : Hid (∀ w, Rd w D g l mq mf → Calls Try.prog 131 #[.pointer (some ⟨g, 0, none⟩), .int .i64 (mn : Int)] w fun e w' => ∃ A c, e = .returned (.slice A nn c) ∧ w'.ownsRow w.heap.size 22 1 (.slice A nn c) nn (x.map uv) ∧ Rd w' D g l q F ∧ Chg (one g) w w') := by rw [hnn]; exact HRR.out
  have HNN := Lib.hid hnn
  have HBAD := Lib.hid hbad
  have HBIG := Lib.hid (fun h0 h1 => @hbig x q F rfl h0 h1)
  have HFINE := Lib.hid (fun h0 h1 h2 => @hfine x q F rfl h0 h1 h2)
  have HMET := Lib.hid (fun h0 h1 h2 => @hmet x q F rfl h0 h1 h2)
  have HSO : Hid (Sl (rpSlice rpU64) w Do Ao no co others) := ⟨ho, hDo⟩
  have HDG := Lib.hid hDg
  have hgl := h.lt
  have HR64 := Lib.hid hr64
  have HL : Hid (F.1 = 0 → 1 ≤ nn ∧ nn ≤ 8) := fun h0 => by
    obtain ⟨new, e1, e2, _, _, _, _, _, e8⟩ := hinv h0
    have h1 := (hminv e8).2.1
    rw [hnn, e1, List.nil_append]; omega
  clear HRR hnn h hf ho hDo hDg hbad hbig hfine hmet hinv hminv hmok hml hr64
  by_cases h0 : F.1 = 0
  case neg =>
    have hq : (F.1 == 0) = false := by simpa using h0
    have HB : Hid (R = ([], q, F)) := HBAD.out h0
    clear h0
    go_enter Try.func94, Try.ntmps94
    go_wp2_with fail
    refine HM.out.mono ?_; rintro e w1 ⟨rfl, hr, hc⟩
    have HR1 := Lib.hid hr
    have HC1 := Lib.hid hc
    have HO1 := Lib.hid (chS HSO.out hc (fun k hk e => HDG.out ((show k = g from e) ▸ hk)))
    clear hr hc
    go_wp2_with fail
    refine (cat_at HR1.out).mono ?_; rintro e w2 ⟨rfl, rfl⟩
    go_wp2_with fail
    refine (HRS.out _ HR1.out).mono ?_; rintro e w2 ⟨A, c, rfl, how, hr, hc⟩
    have HR2 := Lib.hid hr
    have HC2 := Lib.hid (HC1.out.trans hc)
    have HO2 := Lib.hid (chS HO1.out hc (fun k hk e => HDG.out ((show k = g from e) ▸ hk)))
    have HW2 := Lib.hid (own_mono how HC1.out.size)
    clear hr hc how
    go_wp2_with fail
    refine (cgood_at HR2.out).mono ?_; rintro e w3 ⟨rfl, hb⟩
    have HR3 := Lib.hid (HR2.out.below hb)
    have HC3 := Lib.hid (HC2.out.trans (Chg.of_pure hb _))
    have HO3 := Lib.hid (keepS HO2.out hb)
    have HW3 := Lib.hid (keepO HW2.out hb)
    clear hb
    go_wp2_with fail
    go_ret
    have hR := HB.out
    subst hR
    exact ⟨none, 0, rfl, World.ownsRow_nil _ _ _ _, HR3.out, HC3.out⟩
  case pos =>
    have hq : (F.1 == 0) = true := by simpa using h0
    obtain ⟨hx1, hx8⟩ := HL.out h0
    have hxI : (1 : Int) ≤ (nn : Int) := by omega
    have hxI2 : (0 : Int) ≤ (nn : Int) - 1 := by omega
    obtain ⟨a, ha⟩ : ∃ a, x[nn - 1]? = some a := ⟨_, List.getElem?_eq_getElem (by have := HNN.out; omega)⟩
    have hgd : x.getD (x.length - 1) 0 = a := by rw [← HNN.out, List.getD_eq_getElem?_getD, ha]; rfl
    have HA := Lib.hid ha
    rw [hgd] at HBIG HFINE HMET
    clear ha hgd
    have H0 := Lib.hid h0
    clear h0
    by_cases hbg : 4294967295 < a
    case pos =>
      have hd : decide ((4294967295 : Int) < (a : Int)) = true := by simp; omega
      have HB : Hid (R = (x, q, failF F 3 (mq : Nat))) := HBIG.out H0.out hbg
      clear hbg
      go_enter Try.func94, Try.ntmps94
      go_wp2_with fail
      refine HM.out.mono ?_; rintro e w1 ⟨rfl, hr, hc⟩
      have HR1 := Lib.hid hr
      have HC1 := Lib.hid hc
      have HO1 := Lib.hid (chS HSO.out hc (fun k hk e => HDG.out ((show k = g from e) ▸ hk)))
      clear hr hc
      go_wp2_with fail
      refine (cat_at HR1.out).mono ?_; rintro e w2 ⟨rfl, rfl⟩
      go_wp2_with fail
      refine (HRS.out _ HR1.out).mono ?_; rintro e w2 ⟨A, c, rfl, how, hr, hc⟩
      have HR2 := Lib.hid hr
      have HC2 := Lib.hid (HC1.out.trans hc)
      have HO2 := Lib.hid (chS HO1.out hc (fun k hk e => HDG.out ((show k = g from e) ▸ hk)))
      have HW2 := Lib.hid (own_mono how HC1.out.size)
      clear hr hc how
      go_wp2_with fail
      refine (cgood_at HR2.out).mono ?_; rintro e w3 ⟨rfl, hb⟩
      have HR3 := Lib.hid (HR2.out.below hb)
      have HC3 := Lib.hid (HC2.out.trans (Chg.of_pure hb _))
      have HO3 := Lib.hid (keepS HO2.out hb)
      have HW3 := Lib.hid (keepO HW2.out hb)
      clear hb
      obtain ⟨bo, hAo, hbo, _, _, hco, _⟩ := own_block HW3.out (by omega)
      have hcell := hco (nn - 1) (uv a) (by rw [List.getElem?_map, HA.out]; rfl)
      unfold uv at hcell
      clear hco
      subst hAo
      go_wp2_with fail
      refine (cfail_at HR3.out 3 _).mono ?_; rintro e w4 ⟨rfl, hr, hc⟩
      have HR4 := Lib.hid hr
      have HC4 := Lib.hid (HC3.out.trans hc)
      have HW4 := Lib.hid (chO HW3.out hc (fun j hj e => by have e : j = g := e; have := (HW3.out.lt j hj).1; have := hgl; omega))
      clear hr hc hcell
      go_wp2_with fail
      go_ret
      have hR := HB.out
      subst hR
      have hnn := HNN.out
      subst hnn
      exact ⟨_, c, rfl, HW4.out, HR4.out, HC4.out⟩
    case neg =>
      have hd : decide ((4294967295 : Int) < (a : Int)) = false := by simp; omega
      by_cases hap : Apart x others
      case pos =>
        have HB : Hid (R = (x, q, F)) := HFINE.out H0.out hbg hap
        have HAP := Lib.hid (dec_true hap)
        clear hbg hap
        go_enter Try.func94, Try.ntmps94
        go_wp2_with fail
        refine HM.out.mono ?_; rintro e w1 ⟨rfl, hr, hc⟩
        have HR1 := Lib.hid hr
        have HC1 := Lib.hid hc
        have HO1 := Lib.hid (chS HSO.out hc (fun k hk e => HDG.out ((show k = g from e) ▸ hk)))
        clear hr hc
        go_wp2_with fail
        refine (cat_at HR1.out).mono ?_; rintro e w2 ⟨rfl, rfl⟩
        go_wp2_with fail
        refine (HRS.out _ HR1.out).mono ?_; rintro e w2 ⟨A, c, rfl, how, hr, hc⟩
        have HR2 := Lib.hid hr
        have HC2 := Lib.hid (HC1.out.trans hc)
        have HO2 := Lib.hid (chS HO1.out hc (fun k hk e => HDG.out ((show k = g from e) ▸ hk)))
        have HW2 := Lib.hid (own_mono how HC1.out.size)
        clear hr hc how
        go_wp2_with fail
        refine (cgood_at HR2.out).mono ?_; rintro e w3 ⟨rfl, hb⟩
        have HR3 := Lib.hid (HR2.out.below hb)
        have HC3 := Lib.hid (HC2.out.trans (Chg.of_pure hb _))
        have HO3 := Lib.hid (keepS HO2.out hb)
        have HW3 := Lib.hid (keepO HW2.out hb)
        clear hb
        obtain ⟨bo, hAo, hbo, _, _, hco, _⟩ := own_block HW3.out (by omega)
        have hcell := hco (nn - 1) (uv a) (by rw [List.getElem?_map, HA.out]; rfl)
        unfold uv at hcell
        clear hco
        subst hAo
        go_wp2_with fail
        refine (apart_any (own_u64 HW3.out HR64.out) HO3.out.1).mono ?_; rintro e w4 ⟨rfl, rfl⟩
        rw [HAP.out]
        go_wp2_with fail
        go_ret
        have hR := HB.out
        subst hR
        have hnn := HNN.out
        subst hnn
        exact ⟨_, c, rfl, HW3.out, HR3.out, HC3.out⟩
      case neg =>
        have HB : Hid (R = (x, q, failF F 13 (mq : Nat))) := HMET.out H0.out hbg hap
        have HAP := Lib.hid (dec_false hap)
        clear hbg hap
        go_enter Try.func94, Try.ntmps94
        go_wp2_with fail
        refine HM.out.mono ?_; rintro e w1 ⟨rfl, hr, hc⟩
        have HR1 := Lib.hid hr
        have HC1 := Lib.hid hc
        have HO1 := Lib.hid (chS HSO.out hc (fun k hk e => HDG.out ((show k = g from e) ▸ hk)))
        clear hr hc
        go_wp2_with fail
        refine (cat_at HR1.out).mono ?_; rintro e w2 ⟨rfl, rfl⟩
        go_wp2_with fail
        refine (HRS.out _ HR1.out).mono ?_; rintro e w2 ⟨A, c, rfl, how, hr, hc⟩
        have HR2 := Lib.hid hr
        have HC2 := Lib.hid (HC1.out.trans hc)
        have HO2 := Lib.hid (chS HO1.out hc (fun k hk e => HDG.out ((show k = g from e) ▸ hk)))
        have HW2 := Lib.hid (own_mono how HC1.out.size)
        clear hr hc how
        go_wp2_with fail
        refine (cgood_at HR2.out).mono ?_; rintro e w3 ⟨rfl, hb⟩
        have HR3 := Lib.hid (HR2.out.below hb)
        have HC3 := Lib.hid (HC2.out.trans (Chg.of_pure hb _))
        have HO3 := Lib.hid (keepS HO2.out hb)
        have HW3 := Lib.hid (keepO HW2.out hb)
        clear hb
        obtain ⟨bo, hAo, hbo, _, _, hco, _⟩ := own_block HW3.out (by omega)
        have hcell := hco (nn - 1) (uv a) (by rw [List.getElem?_map, HA.out]; rfl)
        unfold uv at hcell
        clear hco
        subst hAo
        go_wp2_with fail
        refine (apart_any (own_u64 HW3.out HR64.out) HO3.out.1).mono ?_; rintro e w4 ⟨rfl, rfl⟩
        rw [HAP.out]
        go_wp2_with fail
        refine (cfail_at HR3.out 13 _).mono ?_; rintro e w4 ⟨rfl, hr, hc⟩
        have HR4 := Lib.hid hr
        have HC4 := Lib.hid (HC3.out.trans hc)
        have HW4 := Lib.hid (chO HW3.out hc (fun j hj e => by have e : j = g := e; have := (HW3.out.lt j hj).1; have := hgl; omega))
        clear hr hc hcell
        go_wp2_with fail
        go_ret
        have hR := HB.out
        subst hR
        have hnn := HNN.out
        subst hnn
        exact ⟨_, c, rfl, HW4.out, HR4.out, HC4.out⟩
end
end Go.Proofs.Ytmdgmnaaopineaa
