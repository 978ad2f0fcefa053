/-
  The law of this claim, part 3 of its proof: the parts VarS, Pen, Pen2, Keep, U64, StrR, Put, StrV.
-/
import Derived.Test.YtmdgmnaaopineaaRows
import Derived.RegionTactic
import Derived.Test.YtmdgmnaaopineaaQPR2
/- The reference's numbers with a bound, and those that must be right. -/
namespace Go.Proofs.Ytmdgmnaaopineaa
open Go.ChangeShapes Go.WideShapes Go.ChangeAt Go.RowKit
set_option linter.unusedVariables false
def isPos (x : Nat) : Bool := decide (x < 4611686018427387904)
theorem rr17_any (x : Nat) (w : World) : Calls Try.prog 87 #[.int .u64 (x : Int)] w fun e w' => e = .returned (.bool (isEpoch x)) ∧ w = w' := by
  unfold isEpoch
  obtain ⟨b, hb⟩ : ∃ b, b = decide (x < 4611686018427387904) := ⟨_, rfl⟩
  obtain ⟨c, hc⟩ : ∃ c, c = decide (1 ≤ x) := ⟨_, rfl⟩
  rw [← hb, ← hc]
  have hd : decide (0 < x) = c := by rw [hc]; apply decide_eq_decide.2; omega
  have hd2 : decide ((x : Int) ≤ 4611686018427387903) = b := by rw [hb]; apply decide_eq_decide.2; omega
  clear hb hc
  cases c
  all_goals
    go_enter Try.func87, Try.ntmps87
    go_wp2_with fail
    go_ret
    exact ⟨rfl, rfl⟩
theorem rp17_any (x : Nat) (w : World) : Calls Try.prog 33 #[.int .u64 (x : Int)] w fun e w' => e = .returned (.bool (isPos x)) ∧ w = w' := by
  unfold isPos
  obtain ⟨b, hb⟩ : ∃ b, b = decide (x < 4611686018427387904) := ⟨_, rfl⟩
  rw [← hb]
  have hd2 : decide ((x : Int) ≤ 4611686018427387903) = b := by rw [hb]; apply decide_eq_decide.2; omega
  clear hb
  go_enter Try.func33, Try.ntmps33
  go_wp2_with fail
  go_ret
  exact ⟨rfl, rfl⟩
section
variable {D : Dom} {A : Option Addr} {n c : Nat} {l : List UInt8} {p : Nat} {f : Flt} {w : World}
set_option maxRecDepth 100000 in
set_option maxHeartbeats 1000000 in
theorem rmost_any (h : rpU8.sl w D A n c l) (hD : ∀ k, D k → k < w.heap.size) (hf : OkF f) (hp : p ≤ n) (hn : n ≤ 1000000000) (m : Nat) :
    Calls Try.prog 138 #[.agg (rdV A n c p f), .int .u64 (m : Int)] w fun e w' => e = .returned (rnV A n c (mostF l p f m)) ∧ Below w.heap.size w w' := by
  have H : Hid ((Try.prog.info? 71).map (·.size) = some 4) := by unfold Hid; kernel_rfl
  have HRD : Hid (∀ w', Below w.heap.size w w' → Calls Try.prog 96 #[.agg (rdV A n c p f)] w' fun e w'' => e = .returned (rnV A n c (vrdF l p f)) ∧ Below w'.heap.size w' w'') := fun w' hb => rread_any (Rp.sl_below h hb hD) (fun k hk => Nat.lt_of_lt_of_le (hD k hk) hb.size) hf hp hn
  have hf0 := @vrdF_fail0 l p f
  unfold mostF
  generalize vrdF l p f = r at *
  obtain ⟨x, q, F1, F2⟩ := r
  simp only at hf0 ⊢
  have HZ := Lib.hid (cbelow_two w (.cells (rdV A n c p f) 71) (.cells rdZ 71))
  have HK := Lib.hid ((Blk.new w 71 (rdV A n c p f)).alloc (.cells rdZ 71))
  have HR := Lib.hid (cblk_top w (rdV A n c p f) rdZ 71 71)
  clear h hD hf hp hn
  clear hf0
  by_cases hx : m < x
  · rw [if_pos hx]
    have hd : decide ((m : Int) < (x : Int)) = true := by simp; omega
    have hd' : decide (m < x) = true := by simpa using hx
    clear hx
    obtain ⟨G1, G2, hG⟩ : ∃ G1 G2, failF (F1, F2) 2 (p : Int) = (G1, G2) := ⟨_, _, rfl⟩
    have HFAIL : Hid (∀ w, Calls Try.prog 95 #[.agg (rdV A n c q (F1, F2)), .int .i64 2, .int .i64 (p : Int)] w fun e w' => e = .returned (.agg (rdV A n c q (G1, G2))) ∧ Below w.heap.size w w') := fun w => by have := rfail_any A n c q (F1, F2) 2 p w; rwa [hG] at this
    rw [hG]
    clear hG
    go_enter Try.func138, Try.ntmps138
    go_wp2_with fail
    generalize World.alloc (World.alloc _ _) _ = w0 at *
    have hz0 := HZ.out.size
    have hr0 := (show Blk _ _ _ _ from HR.out).lt
    have hk0 := (show Blk _ _ _ _ from HK.out).lt
    go_wp2_with fail
    refine (HRD.out _ HZ.out).mono ?_; rintro e w1 ⟨rfl, hb1⟩
    have HB1 := Lib.hid (HZ.out.trans (hb1.mono hz0))
    have hk1 : Blk w1 w.heap.size 71 (rdV A n c p f) := Blk.below HK.out hb1 hk0
    have d0 := hk1.cell 0
    have d1 := hk1.cell 1
    have d2 := hk1.cell 2
    have d3 := hk1.cell 3
    have HR1 : Hid (Blk w1 (w.heap.size + 1) 71 rdZ) := Blk.below HR.out hb1 hr0
    have hz1 := hb1.size
    have hl1 := hk1.lt
    clear hb1 hk1
    go_wp2_with fail
    refine (HFAIL.out _).mono ?_; rintro e w2 ⟨rfl, hb2⟩
    have HR2 : Hid (Blk w2 (w.heap.size + 1) 71 rdZ) := Blk.below (HR1.out.alloc _) hb2 (HR1.out.alloc _).lt
    have HB2 : Hid (Below w.heap.size w w2) := (HB1.out.alloc (by omega) _).trans (hb2.mono (by simp; omega))
    clear hb2 d0 d1 d2 d3
    go_wp2_with (refine wpList_put_row rfl 71 (.tmp 4) (.tmp 21) rfl (w.heap.size + 1) (rdV A n c q (G1, G2)) rfl rfl 71 _ HR2.out H.out rfl (by simp [Value.oneCell']) ?_; intro w3 hblk hgr)
    have hbz : Below w.heap.size w w3 := HB2.out.grown hgr (HB2.out).size (fun k hk => by injection hk with hk; omega)
    have e0 := hblk.cell 0
    have e1 := hblk.cell 1
    have e2 := hblk.cell 2
    have e3 := hblk.cell 3
    refine bodyPost_ret (v := rnV A n c (0, q, (G1, G2))) (by simp [results, Try.results138, go_sem, e0, e1, e2, e3]) rfl ⟨rfl, hbz⟩
  · rw [if_neg hx]
    have hd : decide ((m : Int) < (x : Int)) = false := by simp; omega
    have hd' : decide (m < x) = false := by simpa using hx
    clear hx
    go_enter Try.func138, Try.ntmps138
    go_wp2_with fail
    generalize World.alloc (World.alloc _ _) _ = w0 at *
    have hz0 := HZ.out.size
    have hr0 := (show Blk _ _ _ _ from HR.out).lt
    have hk0 := (show Blk _ _ _ _ from HK.out).lt
    go_wp2_with fail
    refine (HRD.out _ HZ.out).mono ?_; rintro e w1 ⟨rfl, hb1⟩
    have HB1 := Lib.hid (HZ.out.trans (hb1.mono hz0))
    have hk1 : Blk w1 w.heap.size 71 (rdV A n c p f) := Blk.below HK.out hb1 hk0
    have d0 := hk1.cell 0
    have d1 := hk1.cell 1
    have d2 := hk1.cell 2
    have d3 := hk1.cell 3
    have HR1 : Hid (Blk w1 (w.heap.size + 1) 71 rdZ) := Blk.below HR.out hb1 hr0
    have hz1 := hb1.size
    have hl1 := hk1.lt
    clear hb1 hk1
    clear d0 d1 d2 d3
    go_wp2_with (refine wpList_put_row rfl 71 (.tmp 4) (.tmp 22) rfl (w.heap.size + 1) (rdV A n c q (F1, F2)) rfl rfl 71 _ (HR1.out.alloc _) H.out rfl (by simp [Value.oneCell']) ?_; intro w3 hblk hgr)
    have hbz : Below w.heap.size w w3 := (HB1.out.alloc (by omega) _).grown hgr ((HB1.out.alloc (by omega) _)).size (fun k hk => by injection hk with hk; omega)
    have e0 := hblk.cell 0
    have e1 := hblk.cell 1
    have e2 := hblk.cell 2
    have e3 := hblk.cell 3
    refine bodyPost_ret (v := rnV A n c (x, q, (F1, F2))) (by simp [results, Try.results138, go_sem, e0, e1, e2, e3]) rfl ⟨rfl, hbz⟩
set_option maxRecDepth 100000 in
set_option maxHeartbeats 1000000 in
theorem repoch_any (h : rpU8.sl w D A n c l) (hD : ∀ k, D k → k < w.heap.size) (hf : OkF f) (hp : p ≤ n) (hn : n ≤ 1000000000) :
    Calls Try.prog 112 #[.agg (rdV A n c p f), .int .i64 1] w fun e w' => e = .returned (rnV A n c (mustF isEpoch l p f)) ∧ Below w.heap.size w w' := by
  have H : Hid ((Try.prog.info? 71).map (·.size) = some 4) := by unfold Hid; kernel_rfl
  have HRD : Hid (∀ w', Below w.heap.size w w' → Calls Try.prog 96 #[.agg (rdV A n c p f)] w' fun e w'' => e = .returned (rnV A n c (vrdF l p f)) ∧ Below w'.heap.size w' w'') := fun w' hb => rread_any (Rp.sl_below h hb hD) (fun k hk => Nat.lt_of_lt_of_le (hD k hk) hb.size) hf hp hn
  have hf0 := @vrdF_fail0 l p f
  unfold mustF
  generalize vrdF l p f = r at *
  obtain ⟨x, q, F1, F2⟩ := r
  simp only at hf0 ⊢
  have HZ := Lib.hid (cbelow_two w (.cells (rdV A n c p f) 71) (.cells rdZ 71))
  have HK := Lib.hid ((Blk.new w 71 (rdV A n c p f)).alloc (.cells rdZ 71))
  have HR := Lib.hid (cblk_top w (rdV A n c p f) rdZ 71 71)
  clear h hD hf hp hn
  by_cases h0 : F1 = 0
  case neg =>
    rw [if_neg h0]
    obtain rfl : x = 0 := hf0 h0
    have hd : (F1 != 0) = true := by simpa using h0
    have hd' : (F1 == 0) = false := by simpa using h0
    clear h0 hf0
    go_enter Try.func112, Try.ntmps112
    go_wp2_with fail
    generalize World.alloc (World.alloc _ _) _ = w0 at *
    have hz0 := HZ.out.size
    have hr0 := (show Blk _ _ _ _ from HR.out).lt
    have hk0 := (show Blk _ _ _ _ from HK.out).lt
    go_wp2_with fail
    refine (HRD.out _ HZ.out).mono ?_; rintro e w1 ⟨rfl, hb1⟩
    have HB1 := Lib.hid (HZ.out.trans (hb1.mono hz0))
    have hk1 : Blk w1 w.heap.size 71 (rdV A n c p f) := Blk.below HK.out hb1 hk0
    have d0 := hk1.cell 0
    have d1 := hk1.cell 1
    have d2 := hk1.cell 2
    have d3 := hk1.cell 3
    have HR1 : Hid (Blk w1 (w.heap.size + 1) 71 rdZ) := Blk.below HR.out hb1 hr0
    have hz1 := hb1.size
    have hl1 := hk1.lt
    clear hb1 hk1
    clear d0 d1 d2 d3
    go_wp2_with (refine wpList_put_row rfl 71 (.tmp 4) (.tmp 17) rfl (w.heap.size + 1) (rdV A n c q (F1, F2)) rfl rfl 71 _ (HR1.out.alloc _) H.out rfl (by simp [Value.oneCell']) ?_; intro w3 hblk hgr)
    have hbz : Below w.heap.size w w3 := (HB1.out.alloc (by omega) _).grown hgr ((HB1.out.alloc (by omega) _)).size (fun k hk => by injection hk with hk; omega)
    have e0 := hblk.cell 0
    have e1 := hblk.cell 1
    have e2 := hblk.cell 2
    have e3 := hblk.cell 3
    refine bodyPost_ret (v := rnV A n c (0, q, (F1, F2))) (by simp [results, Try.results112, go_sem, e0, e1, e2, e3]) rfl ⟨rfl, hbz⟩
  case pos =>
    rw [if_pos h0]
    have hd0 : (F1 != 0) = false := by simpa using h0
    have hd0' : (F1 == 0) = true := by simpa using h0
    clear h0 hf0
    cases hR : isEpoch x
    case false =>
      simp only [Bool.false_eq_true, if_false]
      obtain ⟨G1, G2, hG⟩ : ∃ G1 G2, failF (F1, F2) 3 (p : Int) = (G1, G2) := ⟨_, _, rfl⟩
      have HFAIL : Hid (∀ w, Calls Try.prog 95 #[.agg (rdV A n c q (F1, F2)), .int .i64 3, .int .i64 (p : Int)] w fun e w' => e = .returned (.agg (rdV A n c q (G1, G2))) ∧ Below w.heap.size w w') := fun w => by have := rfail_any A n c q (F1, F2) 3 p w; rwa [hG] at this
      rw [hG]
      clear hG
      have HRR := Lib.hid hR
      go_enter Try.func112, Try.ntmps112
      go_wp2_with fail
      generalize World.alloc (World.alloc _ _) _ = w0 at *
      have hz0 := HZ.out.size
      have hr0 := (show Blk _ _ _ _ from HR.out).lt
      have hk0 := (show Blk _ _ _ _ from HK.out).lt
      go_wp2_with fail
      refine (HRD.out _ HZ.out).mono ?_; rintro e w1 ⟨rfl, hb1⟩
      have HB1 := Lib.hid (HZ.out.trans (hb1.mono hz0))
      have hk1 : Blk w1 w.heap.size 71 (rdV A n c p f) := Blk.below HK.out hb1 hk0
      have d0 := hk1.cell 0
      have d1 := hk1.cell 1
      have d2 := hk1.cell 2
      have d3 := hk1.cell 3
      have HR1 : Hid (Blk w1 (w.heap.size + 1) 71 rdZ) := Blk.below HR.out hb1 hr0
      have hz1 := hb1.size
      have hl1 := hk1.lt
      clear hb1 hk1
      go_wp2_with fail
      refine (rr17_any x _).mono ?_; rintro e w5 ⟨rfl, rfl⟩
      rw [hR]
      go_wp2_with fail
      refine (HFAIL.out _).mono ?_; rintro e w2 ⟨rfl, hb2⟩
      have HR2 : Hid (Blk w2 (w.heap.size + 1) 71 rdZ) := Blk.below (HR1.out.alloc _) hb2 (HR1.out.alloc _).lt
      have HB2 : Hid (Below w.heap.size w w2) := (HB1.out.alloc (by omega) _).trans (hb2.mono (by simp; omega))
      clear hb2 d0 d1 d2 d3
      go_wp2_with (refine wpList_put_row rfl 71 (.tmp 4) (.tmp 45) rfl (w.heap.size + 1) (rdV A n c q (G1, G2)) rfl rfl 71 _ HR2.out H.out rfl (by simp [Value.oneCell']) ?_; intro w3 hblk hgr)
      have hbz : Below w.heap.size w w3 := HB2.out.grown hgr (HB2.out).size (fun k hk => by injection hk with hk; omega)
      have e0 := hblk.cell 0
      have e1 := hblk.cell 1
      have e2 := hblk.cell 2
      have e3 := hblk.cell 3
      refine bodyPost_ret (v := rnV A n c (0, q, (G1, G2))) (by simp [results, Try.results112, go_sem, e0, e1, e2, e3]) rfl ⟨rfl, hbz⟩
    case true =>
      simp only [if_true]
      have HRR := Lib.hid hR
      go_enter Try.func112, Try.ntmps112
      go_wp2_with fail
      generalize World.alloc (World.alloc _ _) _ = w0 at *
      have hz0 := HZ.out.size
      have hr0 := (show Blk _ _ _ _ from HR.out).lt
      have hk0 := (show Blk _ _ _ _ from HK.out).lt
      go_wp2_with fail
      refine (HRD.out _ HZ.out).mono ?_; rintro e w1 ⟨rfl, hb1⟩
      have HB1 := Lib.hid (HZ.out.trans (hb1.mono hz0))
      have hk1 : Blk w1 w.heap.size 71 (rdV A n c p f) := Blk.below HK.out hb1 hk0
      have d0 := hk1.cell 0
      have d1 := hk1.cell 1
      have d2 := hk1.cell 2
      have d3 := hk1.cell 3
      have HR1 : Hid (Blk w1 (w.heap.size + 1) 71 rdZ) := Blk.below HR.out hb1 hr0
      have hz1 := hb1.size
      have hl1 := hk1.lt
      clear hb1 hk1
      go_wp2_with fail
      refine (rr17_any x _).mono ?_; rintro e w5 ⟨rfl, rfl⟩
      rw [hR]
      clear d0 d1 d2 d3
      go_wp2_with (refine wpList_put_row rfl 71 (.tmp 4) (.tmp 46) rfl (w.heap.size + 1) (rdV A n c q (F1, F2)) rfl rfl 71 _ (HR1.out.alloc _) H.out rfl (by simp [Value.oneCell']) ?_; intro w3 hblk hgr)
      have hbz : Below w.heap.size w w3 := (HB1.out.alloc (by omega) _).grown hgr ((HB1.out.alloc (by omega) _)).size (fun k hk => by injection hk with hk; omega)
      have e0 := hblk.cell 0
      have e1 := hblk.cell 1
      have e2 := hblk.cell 2
      have e3 := hblk.cell 3
      refine bodyPost_ret (v := rnV A n c (x, q, (F1, F2))) (by simp [results, Try.results112, go_sem, e0, e1, e2, e3]) rfl ⟨rfl, hbz⟩
set_option maxRecDepth 100000 in
set_option maxHeartbeats 1000000 in
theorem rpos_any (h : rpU8.sl w D A n c l) (hD : ∀ k, D k → k < w.heap.size) (hf : OkF f) (hp : p ≤ n) (hn : n ≤ 1000000000) :
    Calls Try.prog 112 #[.agg (rdV A n c p f), .int .i64 2] w fun e w' => e = .returned (rnV A n c (mustF isPos l p f)) ∧ Below w.heap.size w w' := by
  have H : Hid ((Try.prog.info? 71).map (·.size) = some 4) := by unfold Hid; kernel_rfl
  have HRD : Hid (∀ w', Below w.heap.size w w' → Calls Try.prog 96 #[.agg (rdV A n c p f)] w' fun e w'' => e = .returned (rnV A n c (vrdF l p f)) ∧ Below w'.heap.size w' w'') := fun w' hb => rread_any (Rp.sl_below h hb hD) (fun k hk => Nat.lt_of_lt_of_le (hD k hk) hb.size) hf hp hn
  have hf0 := @vrdF_fail0 l p f
  unfold mustF
  generalize vrdF l p f = r at *
  obtain ⟨x, q, F1, F2⟩ := r
  simp only at hf0 ⊢
  have HZ := Lib.hid (cbelow_two w (.cells (rdV A n c p f) 71) (.cells rdZ 71))
  have HK := Lib.hid ((Blk.new w 71 (rdV A n c p f)).alloc (.cells rdZ 71))
  have HR := Lib.hid (cblk_top w (rdV A n c p f) rdZ 71 71)
  clear h hD hf hp hn
  by_cases h0 : F1 = 0
  case neg =>
    rw [if_neg h0]
    obtain rfl : x = 0 := hf0 h0
    have hd : (F1 != 0) = true := by simpa using h0
    have hd' : (F1 == 0) = false := by simpa using h0
    clear h0 hf0
    go_enter Try.func112, Try.ntmps112
    go_wp2_with fail
    generalize World.alloc (World.alloc _ _) _ = w0 at *
    have hz0 := HZ.out.size
    have hr0 := (show Blk _ _ _ _ from HR.out).lt
    have hk0 := (show Blk _ _ _ _ from HK.out).lt
    go_wp2_with fail
    refine (HRD.out _ HZ.out).mono ?_; rintro e w1 ⟨rfl, hb1⟩
    have HB1 := Lib.hid (HZ.out.trans (hb1.mono hz0))
    have hk1 : Blk w1 w.heap.size 71 (rdV A n c p f) := Blk.below HK.out hb1 hk0
    have d0 := hk1.cell 0
    have d1 := hk1.cell 1
    have d2 := hk1.cell 2
    have d3 := hk1.cell 3
    have HR1 : Hid (Blk w1 (w.heap.size + 1) 71 rdZ) := Blk.below HR.out hb1 hr0
    have hz1 := hb1.size
    have hl1 := hk1.lt
    clear hb1 hk1
    clear d0 d1 d2 d3
    go_wp2_with (refine wpList_put_row rfl 71 (.tmp 4) (.tmp 17) rfl (w.heap.size + 1) (rdV A n c q (F1, F2)) rfl rfl 71 _ (HR1.out.alloc _) H.out rfl (by simp [Value.oneCell']) ?_; intro w3 hblk hgr)
    have hbz : Below w.heap.size w w3 := (HB1.out.alloc (by omega) _).grown hgr ((HB1.out.alloc (by omega) _)).size (fun k hk => by injection hk with hk; omega)
    have e0 := hblk.cell 0
    have e1 := hblk.cell 1
    have e2 := hblk.cell 2
    have e3 := hblk.cell 3
    refine bodyPost_ret (v := rnV A n c (0, q, (F1, F2))) (by simp [results, Try.results112, go_sem, e0, e1, e2, e3]) rfl ⟨rfl, hbz⟩
  case pos =>
    rw [if_pos h0]
    have hd0 : (F1 != 0) = false := by simpa using h0
    have hd0' : (F1 == 0) = true := by simpa using h0
    clear h0 hf0
    cases hR : isPos x
    case false =>
      simp only [Bool.false_eq_true, if_false]
      obtain ⟨G1, G2, hG⟩ : ∃ G1 G2, failF (F1, F2) 3 (p : Int) = (G1, G2) := ⟨_, _, rfl⟩
      have HFAIL : Hid (∀ w, Calls Try.prog 95 #[.agg (rdV A n c q (F1, F2)), .int .i64 3, .int .i64 (p : Int)] w fun e w' => e = .returned (.agg (rdV A n c q (G1, G2))) ∧ Below w.heap.size w w') := fun w => by have := rfail_any A n c q (F1, F2) 3 p w; rwa [hG] at this
      rw [hG]
      clear hG
      have HRR := Lib.hid hR
      go_enter Try.func112, Try.ntmps112
      go_wp2_with fail
      generalize World.alloc (World.alloc _ _) _ = w0 at *
      have hz0 := HZ.out.size
      have hr0 := (show Blk _ _ _ _ from HR.out).lt
      have hk0 := (show Blk _ _ _ _ from HK.out).lt
      go_wp2_with fail
      refine (HRD.out _ HZ.out).mono ?_; rintro e w1 ⟨rfl, hb1⟩
      have HB1 := Lib.hid (HZ.out.trans (hb1.mono hz0))
      have hk1 : Blk w1 w.heap.size 71 (rdV A n c p f) := Blk.below HK.out hb1 hk0
      have d0 := hk1.cell 0
      have d1 := hk1.cell 1
      have d2 := hk1.cell 2
      have d3 := hk1.cell 3
      have HR1 : Hid (Blk w1 (w.heap.size + 1) 71 rdZ) := Blk.below HR.out hb1 hr0
      have hz1 := hb1.size
      have hl1 := hk1.lt
      clear hb1 hk1
      go_wp2_with fail
      refine (rp17_any x _).mono ?_; rintro e w5 ⟨rfl, rfl⟩
      rw [hR]
      go_wp2_with fail
      refine (HFAIL.out _).mono ?_; rintro e w2 ⟨rfl, hb2⟩
      have HR2 : Hid (Blk w2 (w.heap.size + 1) 71 rdZ) := Blk.below (HR1.out.alloc _) hb2 (HR1.out.alloc _).lt
      have HB2 : Hid (Below w.heap.size w w2) := (HB1.out.alloc (by omega) _).trans (hb2.mono (by simp; omega))
      clear hb2 d0 d1 d2 d3
      go_wp2_with (refine wpList_put_row rfl 71 (.tmp 4) (.tmp 45) rfl (w.heap.size + 1) (rdV A n c q (G1, G2)) rfl rfl 71 _ HR2.out H.out rfl (by simp [Value.oneCell']) ?_; intro w3 hblk hgr)
      have hbz : Below w.heap.size w w3 := HB2.out.grown hgr (HB2.out).size (fun k hk => by injection hk with hk; omega)
      have e0 := hblk.cell 0
      have e1 := hblk.cell 1
      have e2 := hblk.cell 2
      have e3 := hblk.cell 3
      refine bodyPost_ret (v := rnV A n c (0, q, (G1, G2))) (by simp [results, Try.results112, go_sem, e0, e1, e2, e3]) rfl ⟨rfl, hbz⟩
    case true =>
      simp only [if_true]
      have HRR := Lib.hid hR
      go_enter Try.func112, Try.ntmps112
      go_wp2_with fail
      generalize World.alloc (World.alloc _ _) _ = w0 at *
      have hz0 := HZ.out.size
      have hr0 := (show Blk _ _ _ _ from HR.out).lt
      have hk0 := (show Blk _ _ _ _ from HK.out).lt
      go_wp2_with fail
      refine (HRD.out _ HZ.out).mono ?_; rintro e w1 ⟨rfl, hb1⟩
      have HB1 := Lib.hid (HZ.out.trans (hb1.mono hz0))
      have hk1 : Blk w1 w.heap.size 71 (rdV A n c p f) := Blk.below HK.out hb1 hk0
      have d0 := hk1.cell 0
      have d1 := hk1.cell 1
      have d2 := hk1.cell 2
      have d3 := hk1.cell 3
      have HR1 : Hid (Blk w1 (w.heap.size + 1) 71 rdZ) := Blk.below HR.out hb1 hr0
      have hz1 := hb1.size
      have hl1 := hk1.lt
      clear hb1 hk1
      go_wp2_with fail
      refine (rp17_any x _).mono ?_; rintro e w5 ⟨rfl, rfl⟩
      rw [hR]
      clear d0 d1 d2 d3
      go_wp2_with (refine wpList_put_row rfl 71 (.tmp 4) (.tmp 46) rfl (w.heap.size + 1) (rdV A n c q (F1, F2)) rfl rfl 71 _ (HR1.out.alloc _) H.out rfl (by simp [Value.oneCell']) ?_; intro w3 hblk hgr)
      have hbz : Below w.heap.size w w3 := (HB1.out.alloc (by omega) _).grown hgr ((HB1.out.alloc (by omega) _)).size (fun k hk => by injection hk with hk; omega)
      have e0 := hblk.cell 0
      have e1 := hblk.cell 1
      have e2 := hblk.cell 2
      have e3 := hblk.cell 3
      refine bodyPost_ret (v := rnV A n c (x, q, (F1, F2))) (by simp [results, Try.results112, go_sem, e0, e1, e2, e3]) rfl ⟨rfl, hbz⟩
set_option maxRecDepth 100000 in
set_option maxHeartbeats 1000000 in
theorem rtail_any (h : rpU8.sl w D A n c l) (hD : ∀ k, D k → k < w.heap.size) (hf : OkF f) (hp : p ≤ n) (hn : n ≤ 1000000000) :
    Calls Try.prog 112 #[.agg (rdV A n c p f), .int .i64 3] w fun e w' => e = .returned (rnV A n c (mustF isTail l p f)) ∧ Below w.heap.size w w' := by
  have H : Hid ((Try.prog.info? 71).map (·.size) = some 4) := by unfold Hid; kernel_rfl
  have HRD : Hid (∀ w', Below w.heap.size w w' → Calls Try.prog 96 #[.agg (rdV A n c p f)] w' fun e w'' => e = .returned (rnV A n c (vrdF l p f)) ∧ Below w'.heap.size w' w'') := fun w' hb => rread_any (Rp.sl_below h hb hD) (fun k hk => Nat.lt_of_lt_of_le (hD k hk) hb.size) hf hp hn
  have hf0 := @vrdF_fail0 l p f
  unfold mustF
  generalize vrdF l p f = r at *
  obtain ⟨x, q, F1, F2⟩ := r
  simp only at hf0 ⊢
  have HZ := Lib.hid (cbelow_two w (.cells (rdV A n c p f) 71) (.cells rdZ 71))
  have HK := Lib.hid ((Blk.new w 71 (rdV A n c p f)).alloc (.cells rdZ 71))
  have HR := Lib.hid (cblk_top w (rdV A n c p f) rdZ 71 71)
  clear h hD hf hp hn
  by_cases h0 : F1 = 0
  case neg =>
    rw [if_neg h0]
    obtain rfl : x = 0 := hf0 h0
    have hd : (F1 != 0) = true := by simpa using h0
    have hd' : (F1 == 0) = false := by simpa using h0
    clear h0 hf0
    go_enter Try.func112, Try.ntmps112
    go_wp2_with fail
    generalize World.alloc (World.alloc _ _) _ = w0 at *
    have hz0 := HZ.out.size
    have hr0 := (show Blk _ _ _ _ from HR.out).lt
    have hk0 := (show Blk _ _ _ _ from HK.out).lt
    go_wp2_with fail
    refine (HRD.out _ HZ.out).mono ?_; rintro e w1 ⟨rfl, hb1⟩
    have HB1 := Lib.hid (HZ.out.trans (hb1.mono hz0))
    have hk1 : Blk w1 w.heap.size 71 (rdV A n c p f) := Blk.below HK.out hb1 hk0
    have d0 := hk1.cell 0
    have d1 := hk1.cell 1
    have d2 := hk1.cell 2
    have d3 := hk1.cell 3
    have HR1 : Hid (Blk w1 (w.heap.size + 1) 71 rdZ) := Blk.below HR.out hb1 hr0
    have hz1 := hb1.size
    have hl1 := hk1.lt
    clear hb1 hk1
    clear d0 d1 d2 d3
    go_wp2_with (refine wpList_put_row rfl 71 (.tmp 4) (.tmp 17) rfl (w.heap.size + 1) (rdV A n c q (F1, F2)) rfl rfl 71 _ (HR1.out.alloc _) H.out rfl (by simp [Value.oneCell']) ?_; intro w3 hblk hgr)
    have hbz : Below w.heap.size w w3 := (HB1.out.alloc (by omega) _).grown hgr ((HB1.out.alloc (by omega) _)).size (fun k hk => by injection hk with hk; omega)
    have e0 := hblk.cell 0
    have e1 := hblk.cell 1
    have e2 := hblk.cell 2
    have e3 := hblk.cell 3
    refine bodyPost_ret (v := rnV A n c (0, q, (F1, F2))) (by simp [results, Try.results112, go_sem, e0, e1, e2, e3]) rfl ⟨rfl, hbz⟩
  case pos =>
    rw [if_pos h0]
    have hd0 : (F1 != 0) = false := by simpa using h0
    have hd0' : (F1 == 0) = true := by simpa using h0
    clear h0 hf0
    cases hR : isTail x
    case false =>
      simp only [Bool.false_eq_true, if_false]
      obtain ⟨G1, G2, hG⟩ : ∃ G1 G2, failF (F1, F2) 3 (p : Int) = (G1, G2) := ⟨_, _, rfl⟩
      have HFAIL : Hid (∀ w, Calls Try.prog 95 #[.agg (rdV A n c q (F1, F2)), .int .i64 3, .int .i64 (p : Int)] w fun e w' => e = .returned (.agg (rdV A n c q (G1, G2))) ∧ Below w.heap.size w w') := fun w => by have := rfail_any A n c q (F1, F2) 3 p w; rwa [hG] at this
      rw [hG]
      clear hG
      have hd : decide ((4611686018427387904 : Int) < (x : Int)) = true := by unfold isTail at hR; simp at hR ⊢; omega
      clear hR
      go_enter Try.func112, Try.ntmps112
      go_wp2_with fail
      generalize World.alloc (World.alloc _ _) _ = w0 at *
      have hz0 := HZ.out.size
      have hr0 := (show Blk _ _ _ _ from HR.out).lt
      have hk0 := (show Blk _ _ _ _ from HK.out).lt
      go_wp2_with fail
      refine (HRD.out _ HZ.out).mono ?_; rintro e w1 ⟨rfl, hb1⟩
      have HB1 := Lib.hid (HZ.out.trans (hb1.mono hz0))
      have hk1 : Blk w1 w.heap.size 71 (rdV A n c p f) := Blk.below HK.out hb1 hk0
      have d0 := hk1.cell 0
      have d1 := hk1.cell 1
      have d2 := hk1.cell 2
      have d3 := hk1.cell 3
      have HR1 : Hid (Blk w1 (w.heap.size + 1) 71 rdZ) := Blk.below HR.out hb1 hr0
      have hz1 := hb1.size
      have hl1 := hk1.lt
      clear hb1 hk1
      go_wp2_with fail
      refine (HFAIL.out _).mono ?_; rintro e w2 ⟨rfl, hb2⟩
      have HR2 : Hid (Blk w2 (w.heap.size + 1) 71 rdZ) := Blk.below (HR1.out.alloc _) hb2 (HR1.out.alloc _).lt
      have HB2 : Hid (Below w.heap.size w w2) := (HB1.out.alloc (by omega) _).trans (hb2.mono (by simp; omega))
      clear hb2 d0 d1 d2 d3
      go_wp2_with (refine wpList_put_row rfl 71 (.tmp 4) (.tmp 45) rfl (w.heap.size + 1) (rdV A n c q (G1, G2)) rfl rfl 71 _ HR2.out H.out rfl (by simp [Value.oneCell']) ?_; intro w3 hblk hgr)
      have hbz : Below w.heap.size w w3 := HB2.out.grown hgr (HB2.out).size (fun k hk => by injection hk with hk; omega)
      have e0 := hblk.cell 0
      have e1 := hblk.cell 1
      have e2 := hblk.cell 2
      have e3 := hblk.cell 3
      refine bodyPost_ret (v := rnV A n c (0, q, (G1, G2))) (by simp [results, Try.results112, go_sem, e0, e1, e2, e3]) rfl ⟨rfl, hbz⟩
    case true =>
      simp only [if_true]
      have hd : decide ((4611686018427387904 : Int) < (x : Int)) = false := by unfold isTail at hR; simp at hR ⊢; omega
      clear hR
      go_enter Try.func112, Try.ntmps112
      go_wp2_with fail
      generalize World.alloc (World.alloc _ _) _ = w0 at *
      have hz0 := HZ.out.size
      have hr0 := (show Blk _ _ _ _ from HR.out).lt
      have hk0 := (show Blk _ _ _ _ from HK.out).lt
      go_wp2_with fail
      refine (HRD.out _ HZ.out).mono ?_; rintro e w1 ⟨rfl, hb1⟩
      have HB1 := Lib.hid (HZ.out.trans (hb1.mono hz0))
      have hk1 : Blk w1 w.heap.size 71 (rdV A n c p f) := Blk.below HK.out hb1 hk0
      have d0 := hk1.cell 0
      have d1 := hk1.cell 1
      have d2 := hk1.cell 2
      have d3 := hk1.cell 3
      have HR1 : Hid (Blk w1 (w.heap.size + 1) 71 rdZ) := Blk.below HR.out hb1 hr0
      have hz1 := hb1.size
      have hl1 := hk1.lt
      clear hb1 hk1
      clear d0 d1 d2 d3
      go_wp2_with (refine wpList_put_row rfl 71 (.tmp 4) (.tmp 46) rfl (w.heap.size + 1) (rdV A n c q (F1, F2)) rfl rfl 71 _ (HR1.out.alloc _) H.out rfl (by simp [Value.oneCell']) ?_; intro w3 hblk hgr)
      have hbz : Below w.heap.size w w3 := (HB1.out.alloc (by omega) _).grown hgr ((HB1.out.alloc (by omega) _)).size (fun k hk => by injection hk with hk; omega)
      have e0 := hblk.cell 0
      have e1 := hblk.cell 1
      have e2 := hblk.cell 2
      have e3 := hblk.cell 3
      refine bodyPost_ret (v := rnV A n c (x, q, (F1, F2))) (by simp [results, Try.results112, go_sem, e0, e1, e2, e3]) rfl ⟨rfl, hbz⟩
end
end Go.Proofs.Ytmdgmnaaopineaa
/- The walks of chapter 3: a writer in its block, and what each of its calls makes of it. -/
namespace Go.Proofs.Ytmdgmnaaopineaa
open Go.ChangeShapes Go.WideShapes Go.ChangeAt Go.RowKit
set_option linter.unusedVariables false

theorem elemB : Elem Try.prog 36 5 1 1 := Elem.of (z := .int .u8 0) Try.underlying36 (by kernel_rfl) rfl (by decide)

/-- A writer stands in block g: its bound, what was written, its code; F are the blocks that it works on. -/
def Pen (w : World) (F : Dom) (g : Nat) (most : Int) (b : List UInt8) (code : Int) : Prop :=
  ∃ A n c, Blk w g 139 #[.int .i64 most, .slice A n c, .int .i64 code] ∧ w.ownsRow 0 5 1 (.slice A n c) n (b.map bv) ∧ b.length = n ∧ (∀ k, F k ↔ (k = g ∨ some k = (Value.slice A n c).ownBlock))
theorem own_lt {w : World} {base : Nat} {e : TypeId} {size n : Nat} {v : Value} {xs : List Value} (h : w.ownsRow base e size v n xs) {k : Nat} (hk : some k = v.ownBlock) : k < w.heap.size := (h.lt k hk.symm).2
theorem Pen.lt {w : World} {F : Dom} {g : Nat} {most : Int} {b : List UInt8} {code : Int} (h : Pen w F g most b code) : ∀ k, F k → k < w.heap.size := by
  obtain ⟨A, n, c, hb, ho, _, hF⟩ := h
  intro k hk
  rcases (hF k).1 hk with rfl | hk
  · exact hb.lt
  · exact own_lt ho hk
theorem Pen.keep {w w' : World} {F : Dom} {g : Nat} {most : Int} {b : List UInt8} {code : Int} (h : Pen w F g most b code) (hs : Same F w w') (hz : w.heap.size ≤ w'.heap.size) : Pen w' F g most b code := by
  obtain ⟨A, n, c, hb, ho, hn, hF⟩ := h
  refine ⟨A, n, c, (hs g ((hF g).2 (.inl rfl))).trans hb, ⟨ho.1, ?_⟩, hn, hF⟩
  rcases ho.2 with hv | ⟨q, cap, cur, hv, hq, hh, rest⟩
  · exact .inl hv
  · exact .inr ⟨q, cap, cur, hv, hq, (hs q ((hF q).2 (.inr (by rw [hv]; rfl)))).trans hh, rest⟩
theorem Pen.below {w w' : World} {F : Dom} {g : Nat} {most : Int} {b : List UInt8} {code : Int} (h : Pen w F g most b code) (hb : Below w.heap.size w w') : Pen w' F g most b code :=
  h.keep (Same.of_below hb h.lt) hb.size
theorem Pen.ne {w : World} {g : Nat} {e t : TypeId} {cs : Array Value} {base size n : Nat} {v : Value} {xs : List Value} (hb : Blk w g t cs) (ho : w.ownsRow base e size v n xs) (hne : e ≠ t) : some g ≠ v.ownBlock := by
  intro h
  rcases ho.2 with ⟨rfl, _⟩ | ⟨q, cap, cur, rfl, _, hh, _⟩
  · cases h
  · simp only [Value.ownBlock, Option.some.injEq] at h
    subst h
    unfold Blk at hb
    rw [hh] at hb
    injection hb with hb
    injection hb with _ he
    exact hne he

section
variable {w : World} {F : Dom} {g : Nat} {most : Int} {b : List UInt8} {code : Int}
theorem code_at (h : Pen w F g most b code) : Calls Try.prog 106 #[.pointer (some ⟨g, 0, none⟩)] w fun e w' => e = .returned (.int .i64 code) ∧ w = w' := by
  obtain ⟨A, n, c, hb, ho, hn, hF⟩ := h
  have hc := hb.cell 2
  clear hb ho hF hn
  go_enter Try.func106, Try.ntmps106
  go_wp2
  go_ret
  exact ⟨rfl, rfl⟩
theorem room_at (h : Pen w F g most b code) (h0 : 0 ≤ most) (h1 : most ≤ 9223372036854775807) (hb : b.length ≤ 1000000000) : Calls Try.prog 147 #[.pointer (some ⟨g, 0, none⟩)] w fun e w' => e = .returned (.int .i64 (most - b.length)) ∧ Below w.heap.size w w' := by
  obtain ⟨A, n, c, hb, ho, hn, hF⟩ := h
  have hc0 := hb.cell 0
  have hc := hb.cell 1
  rw [hn]
  have hn' : n ≤ 1000000000 := by omega
  clear hb ho hF hn
  go_enter Try.func147, Try.ntmps147
  go_wp2_with fail
  go_quiet (fail)
  go_wp2_with fail
  go_ret
  exact ⟨rfl, ⟨rfl, rfl, rfl, Nat.le_refl _, fun _ _ => rfl⟩⟩
theorem fail_at (h : Pen w F g most b code) (c : Int) : Calls Try.prog 103 #[.pointer (some ⟨g, 0, none⟩), .int .i64 c] w fun e w' => e = .returned (.tuple #[]) ∧ Pen w' F g most b (if code = 0 then c else code) ∧ Chg F w w' := by
  have hcode := code_at h
  have HC := Lib.hid hcode
  have HP := Lib.hid h
  obtain ⟨A, n, cc, hb, ho, hn, hF⟩ := h
  have hc := hb.cell 2
  have hf := hb.frozen 2
  have HB := Lib.hid hb
  have HO := Lib.hid ho
  have HF := Lib.hid hF
  clear hb ho hF hcode
  by_cases h0 : (code == 0) = true
  · have hif : (if code = 0 then c else code) = c := if_pos (by simpa using h0)
    rw [hif]
    clear hif
    go_enter Try.func103, Try.ntmps103
    go_wp2_with (go_at_call 106; refine HC.out.mono ?_; rintro e w' ⟨rfl, rfl⟩)
    go_end0
    refine ⟨rfl, ⟨A, n, cc, HB.out.put 2 _, ?_, hn, HF.out⟩, (Chg.refl _ _).setCell (.inl ((HF.out g).2 (.inl rfl))) _⟩
    exact HO.out.kept (grown_setCell _ _ _) (.inr (fun e => Pen.ne HB.out HO.out (by decide) e.symm))
  · have h0' : (code == 0) = false := by simpa using h0
    have hif : (if code = 0 then c else code) = code := if_neg (by simpa using h0)
    rw [hif]
    clear hif h0
    go_enter Try.func103, Try.ntmps103
    go_wp2_with (go_at_call 106; refine HC.out.mono ?_; rintro e w' ⟨rfl, rfl⟩)
    go_end0
    exact ⟨rfl, HP.out, Chg.refl _ _⟩
end
end Go.Proofs.Ytmdgmnaaopineaa
/- The walks of chapter 3: Put, Text, Bytes, New, and a number's lowest bytes. -/
namespace Go.Proofs.Ytmdgmnaaopineaa
open Go.ChangeShapes Go.WideShapes Go.ChangeAt Go.RowKit
set_option linter.unusedVariables false

def putB (most : Int) (b : List UInt8) (code : Int) (new : List UInt8) : List UInt8 × Int :=
  if code ≠ 0 then (b, code) else if most < b.length + new.length then (b, 2) else (b ++ new, 0)
theorem put_at {w : World} {F : Dom} {g : Nat} {most : Int} {b : List UInt8} {code : Int} (h : Pen w F g most b code) (h0 : 0 ≤ most) (h1 : most ≤ 9223372036854775807) (hb : b.length ≤ 1000000000)
    {D : Dom} {A : Option Addr} {n c : Nat} {new : List UInt8} (hs : rpU8.sl w D A n c new) (hD : ∀ k, D k → k < w.heap.size) (hn : n ≤ 1000000000) :
    Calls Try.prog 134 #[.pointer (some ⟨g, 0, none⟩), .slice A n c] w fun e w' => e = .returned (.tuple #[]) ∧ ∃ F', Pen w' F' g most (putB most b code new).1 (putB most b code new).2 ∧ Chg F w w' ∧ (∀ k, F' k → F k ∨ w.heap.size ≤ k) := by
  have hcode := code_at h
  have hroom := room_at h h0 h1 hb
  have hlt := h.lt
  obtain ⟨hsl, _, _⟩ := Rp.sl_len hs
  have HC := Lib.hid hcode
  have HR := Lib.hid hroom
  have HP := Lib.hid h
  have HS := Lib.hid hs
  clear hcode hroom hs
  by_cases hc0 : code = 0
  · subst hc0
    have hz : ((0 : Int) != 0) = false := rfl
    by_cases hbig : most < b.length + n
    · have hput : putB most b 0 new = (b, 2) := by unfold putB; rw [if_neg (by simp), if_pos (by rw [hsl]; omega)]
      rw [hput]
      have hd : decide (most - (b.length : Int) < (n : Int)) = true := by simp; omega
      have hfail := fun (w' : World) (hw : Below w.heap.size w w') => fail_at (h.below hw) 2
      have HFL := Lib.hid hfail
      clear hfail hput h hlt hD
      go_enter Try.func134, Try.ntmps134
      go_wp2_with fail
      refine HC.out.mono ?_; rintro e w' ⟨rfl, rfl⟩
      go_wp2_with fail
      refine HR.out.mono ?_; rintro e w1 ⟨rfl, hb1⟩
      go_wp2_with fail
      refine (HFL.out _ hb1).mono ?_; rintro e w2 ⟨rfl, hp2, hch⟩
      go_wp2_with fail
      go_end0
      exact ⟨rfl, F, hp2, (Chg.of_pure hb1 F).trans hch, fun k hk => .inl hk⟩
    · have hput : putB most b 0 new = (b ++ new, 0) := by unfold putB; rw [if_neg (by simp), if_neg (by rw [hsl]; omega)]
      rw [hput]
      have hd : decide (most - (b.length : Int) < (n : Int)) = false := by simp; omega
      clear hput h
      go_enter Try.func134, Try.ntmps134
      go_wp2_with fail
      refine HC.out.mono ?_; rintro e w' ⟨rfl, rfl⟩
      go_wp2_with fail
      refine HR.out.mono ?_; rintro e w1 ⟨rfl, hb1⟩
      obtain ⟨A0, n0, c0, hblk, ho, hbn, hF⟩ := HP.out.below hb1
      have hc1 := hblk.cell 1
      have hsrc := Src.bytes (Rp.sl_below HS.out hb1 hD)
      have HB := Lib.hid hblk
      have HO := Lib.hid ho
      have HFF := Lib.hid hF
      have HSR := Lib.hid hsrc
      clear hblk ho hF hsrc hlt hD
      go_wp2_with (at_builtin; refine wpList_app rfl (.tmp 8) (.tmp 9) _ rfl elemB rfl HO.out rfl HSR.out (by unfold maxLen; omega) (by omega) (Nat.zero_le _) ?_; intro A2 c2 w2 ho2 hg2 hat2
                   have hblk2 := HB.out.grown hg2 (Pen.ne HB.out HO.out (by decide))
                   have hc2 := hblk2.cell 1
                   have hf2 := hblk2.frozen 1)
      go_end0
      have hne2 : some g ≠ (Value.slice A2 (n0 + n) c2).ownBlock := Pen.ne hblk2 ho2 (by decide)
      refine ⟨rfl, fun k => k = g ∨ some k = (Value.slice A2 (n0 + n) c2).ownBlock, ⟨A2, n0 + n, c2, hblk2.put 1 _, ?_, by rw [List.length_append, hbn, hsl], fun k => Iff.rfl⟩, ?_, ?_⟩
      · rw [List.map_append]
        exact ho2.kept (grown_setCell _ _ _) (.inr (fun e => hne2 e.symm))
      · refine (Chg.of_pure hb1 F).trans (((Chg.of_grown hg2).more (fun k _ hk => (HFF.out k).2 (.inr hk))).setCell (.inl ((HFF.out g).2 (.inl rfl))) _)
      · rintro k (rfl | hk)
        · exact .inl ((HFF.out _).2 (.inl rfl))
        · rcases hat2 with h | h
          · exact .inl ((HFF.out k).2 (.inr (hk.trans h)))
          · right
            rw [h] at hk
            injection hk with hk
            have := hb1.size
            omega
  · have hput : putB most b code new = (b, code) := by unfold putB; rw [if_pos hc0]
    rw [hput]
    have hz : (code != 0) = true := bne_iff_ne.2 hc0
    clear hput h hc0 hlt hD
    go_enter Try.func134, Try.ntmps134
    go_wp2_with fail
    refine HC.out.mono ?_; rintro e w' ⟨rfl, rfl⟩
    go_wp2_with fail
    go_end0
    exact ⟨rfl, F, HP.out, Chg.refl _ _, fun k hk => .inl hk⟩

theorem new_any (most : Int) (w : World) : Calls Try.prog 50 #[.int .i64 most] w fun e w' => e = .returned (.pointer (some ⟨w.heap.size, 0, none⟩)) ∧ Pen w' (fun k => k = w.heap.size) w.heap.size (max most 0) [] 0 ∧ Below w.heap.size w w' := by
  by_cases h : most < 0
  · have hm : max most 0 = 0 := by omega
    rw [hm]
    clear hm
    go_enter Try.func50, Try.ntmps50
    go_wp2_with fail
    go_ret
    exact ⟨rfl, ⟨none, 0, 0, Blk.new w _ _, World.ownsRow_nil _ _ _ _, rfl, fun k => by simp [Value.ownBlock]⟩, (Below.refl _ _).alloc (Nat.le_refl _) _⟩
  · have hm : max most 0 = most := by omega
    rw [hm]
    clear hm
    go_enter Try.func50, Try.ntmps50
    go_wp2_with fail
    go_ret
    exact ⟨rfl, ⟨none, 0, 0, Blk.new w _ _, World.ownsRow_nil _ _ _ _, rfl, fun k => by simp [Value.ownBlock]⟩, (Below.refl _ _).alloc (Nat.le_refl _) _⟩
theorem bytes_ok {w : World} {F : Dom} {g : Nat} {most : Int} {b : List UInt8} (h : Pen w F g most b 0) (hb : b.length ≤ 1000000000) :
    Calls Try.prog 52 #[.pointer (some ⟨g, 0, none⟩)] w fun e w' => ∃ A n c, e = .returned (.tuple #[.slice A n c, .int .i64 0]) ∧ w'.ownsRow w.heap.size 5 1 (.slice A n c) n (b.map bv) ∧ Below w.heap.size w w' := by
  have hcode := code_at h
  have HC := Lib.hid hcode
  obtain ⟨A, n, cc, hblk, ho, hn, hF⟩ := h
  have hc1 := ((hblk.alloc (.cells #[] 5)).cell 1)
  have hsrc := (Src.bytes (own_bytes (ho.alloc (.cells #[] 5))))
  have hmade := World.ownsRow_made (e := 5) (size := 1) (base := w.heap.size) w #[] 0 (Nat.le_refl _) (by decide) rfl
  have HM := Lib.hid hmade
  have HS := Lib.hid hsrc
  clear hmade hsrc hblk ho hF hcode
  go_enter Try.func52, Try.ntmps52
  go_wp2_with (first
    | (go_at_call 106; refine HC.out.mono ?_; rintro e w' ⟨rfl, rfl⟩)
    | (at_builtin; refine wpList_app rfl (.tmp 10) (.tmp 14) _ rfl elemB rfl HM.out rfl HS.out (by unfold maxLen; omega) (by omega) (by simp) ?_; intro A1 c1 w1 ho1 hg1 hat1; have ho1' := ho1; rw [Nat.zero_add, List.nil_append] at ho1'))
  have hb1 : Below w.heap.size w w1 := ((Below.refl _ _).alloc (Nat.le_refl _) _).grown hg1 (by simp) (fun k hk => (HM.out.lt k hk).1)
  go_ret2
  exact ⟨A1, n, c1, by simp, ho1', hb1⟩
theorem bytes_bad {w : World} {F : Dom} {g : Nat} {most : Int} {b : List UInt8} {code : Int} (h : Pen w F g most b code) (hc0 : code ≠ 0) :
    Calls Try.prog 52 #[.pointer (some ⟨g, 0, none⟩)] w fun e w' => e = .returned (.tuple #[.slice none 0 0, .int .i64 code]) ∧ w = w' := by
  have hcode := code_at h
  have HC := Lib.hid hcode
  have hz : (code != 0) = true := bne_iff_ne.2 hc0
  clear hcode hc0 h
  go_enter Try.func52, Try.ntmps52
  go_wp2_with (go_at_call 106; refine HC.out.mono ?_; rintro e w' ⟨rfl, rfl⟩)
  go_ret2
  exact ⟨rfl, rfl⟩
end Go.Proofs.Ytmdgmnaaopineaa
/- What stays behind a call: the words of the walks that a program prints. -/
namespace Go.Proofs.Ytmdgmnaaopineaa
open Go.RowKit
set_option linter.unusedVariables false
/-- A slice that reads as a list, in blocks that lie. -/
def Sl {α : Type} (r : Rp α) (w : World) (D : Dom) (A : Option Addr) (n c : Nat) (l : List α) : Prop := r.sl w D A n c l ∧ ∀ k, D k → k < w.heap.size
section
variable {α : Type} {r : Rp α} {w w' : World} {D F : Dom} {g : Nat} {t : TypeId} {cs : Array Value} {A : Option Addr} {n c : Nat} {l : List α} {b : List UInt8} {p : Nat} {f : Flt}
theorem keepB (h : Blk w g t cs) (hb : Below w.heap.size w w') : Blk w' g t cs := h.below hb h.lt
theorem keepS (h : Sl r w D A n c l) (hb : Below w.heap.size w w') : Sl r w' D A n c l := ⟨Rp.sl_below h.1 hb h.2, fun k hk => Nat.lt_of_lt_of_le (h.2 k hk) hb.size⟩
theorem keepR (h : Rd w D g b p f) (hb : Below w.heap.size w w') : Rd w' D g b p f := h.below hb
theorem keepO {base : Nat} {e : TypeId} {size m : Nat} {v : Value} {xs : List Value} (h : w.ownsRow base e size v m xs) (hb : Below w.heap.size w w') : w'.ownsRow base e size v m xs := by
  refine ⟨h.1, ?_⟩
  rcases h.2 with h0 | ⟨g, cap, cur, hv, hg, hh, hr⟩
  · exact .inl h0
  · exact .inr ⟨g, cap, cur, hv, hg, (hb.block g (Blk.lt (w := w) hh)).trans hh, hr⟩
theorem keepP {most code : Int} (h : Pen w F g most b code) (hb : Below w.heap.size w w') : Pen w' F g most b code := h.below hb
theorem stepB {a b c : World} (h : Below a.heap.size a b) (hb : Below b.heap.size b c) : Below a.heap.size a c := h.trans (hb.mono h.size)
theorem chB (h : Blk w g t cs) (hc : Chg F w w') (hF : ¬ F g) : Blk w' g t cs := (hc.block g h.lt hF).trans h
theorem chS (h : Sl r w D A n c l) (hc : Chg F w w') (hF : ∀ k, D k → ¬ F k) : Sl r w' D A n c l :=
  ⟨Rp.sl_keep h.1 (hc.same h.2 hF), fun k hk => Nat.lt_of_lt_of_le (h.2 k hk) hc.size⟩
theorem chO {base : Nat} {e : TypeId} {size m : Nat} {v : Value} {xs : List Value} (h : w.ownsRow base e size v m xs) (hc : Chg F w w') (hF : ∀ k, v.ownBlock = some k → ¬ F k) : w'.ownsRow base e size v m xs := by
  refine ⟨h.1, ?_⟩
  rcases h.2 with h0 | ⟨g, cap, cur, hv, hg, hh, hr⟩
  · exact .inl h0
  · exact .inr ⟨g, cap, cur, hv, hg, (hc.block g (Blk.lt (w := w) hh) (hF g (by rw [hv]; rfl))).trans hh, hr⟩
theorem chBase {a b c : World} (h : Below a.heap.size a b) (hc : Chg F b c) (hF : ∀ k, F k → a.heap.size ≤ k) : Below a.heap.size a c := h.trans (hc.below h.size hF)
theorem ownS {base : Nat} {e : TypeId} {l : List UInt8} (h : w.ownsRow base e 1 (.slice A n c) n (l.map bv)) : Sl rpU8 w (fun k => some k = (Value.slice A n c).ownBlock) A n c l := ⟨own_bytes h, fun k hk => own_lt h hk⟩
theorem rdPut (h : Rd w D g b p f) {a : Addr} (hg : a.block ≠ g) (hD : ¬ D a.block) (u : Value) : Rd (w.setCell a u) D g b p f :=
  h.keep (fun k hk => Below.heap_setCell _ _ _ _ (by
    rintro rfl
    rcases hk with rfl | hk
    · exact hg rfl
    · exact hD hk)) (by simp [World.setCell])
theorem rdDrew (h : Rd w D g b p f) : Rd w.drew D g b p f := h.keep (fun _ _ => rfl) (Nat.le_refl _)
theorem rdGrown {row : Option Nat} (h : Rd w D g b p f) (hg : w.grownBy w' row) (hk : some g ≠ row) (hD : ∀ k, D k → some k ≠ row) : Rd w' D g b p f :=
  h.keep (fun i hi => hg.block i (by
    rcases hi with rfl | hi
    · exact h.lt
    · exact h.dom i hi) (by
    rcases hi with rfl | hi
    · exact hk
    · exact hD i hi)) hg.size
theorem chGrown {a : World} {row : Option Nat} (h : Chg F a w) (hg : w.grownBy w' row) (hk : ∀ k, row = some k → a.heap.size ≤ k) : Chg F a w' :=
  ⟨hg.os.trans h.os, hg.tape.trans h.tape, hg.output.trans h.output, Nat.le_trans h.size hg.size, fun i hi hn => (hg.block i (Nat.lt_of_lt_of_le hi h.size) (fun e => by have := hk i e.symm; omega)).trans (h.block i hi hn)⟩
theorem below1 (w : World) (o : Obj) : Below w.heap.size w (w.alloc o) := (Below.refl _ _).alloc (Nat.le_refl _) _
theorem below2 (w : World) (o o' : Obj) : Below w.heap.size w ((w.alloc o).alloc o') := cbelow_two w o o'
theorem below3 (w : World) (o o' o'' : Obj) : Below w.heap.size w (((w.alloc o).alloc o').alloc o'') :=
  ((cbelow_two w o o').alloc (by simp; omega) _)
theorem blk11 (w : World) (t : TypeId) (cs : Array Value) : Blk (w.alloc (.cells cs t)) w.heap.size t cs := Blk.new w t cs
theorem blk21 (w : World) (t t' : TypeId) (cs cs' : Array Value) : Blk ((w.alloc (.cells cs t)).alloc (.cells cs' t')) w.heap.size t cs := (Blk.new w t cs).alloc _
theorem blk22 (w : World) (t t' : TypeId) (cs cs' : Array Value) : Blk ((w.alloc (.cells cs t)).alloc (.cells cs' t')) (w.heap.size + 1) t' cs' := cblk_top w cs cs' t t'
end
end Go.Proofs.Ytmdgmnaaopineaa
/- Numbers of 64 bits in a row of the call's own. -/
namespace Go.Proofs.Ytmdgmnaaopineaa
open Go.ChangeShapes Go.WideShapes Go.ChangeAt Go.RowKit
set_option linter.unusedVariables false
def uv (x : Nat) : Value := .int .u64 (x : Int)
theorem Src.u64 {w : World} {D : Dom} {A : Option Addr} {n c : Nat} {l : List Nat} (h : rpU64.sl w D A n c l) : Src w A n 1 (l.map uv) := by
  obtain ⟨hlen, _, _⟩ := Rp.sl_len h
  refine ⟨by simp [hlen], fun u hu => ?_, fun hp => ?_⟩
  · obtain ⟨x, _, rfl⟩ := List.mem_map.1 hu; rfl
  · obtain ⟨b, off, x, hA, _⟩ := u64_at (k := 0) h (by simpa [hlen] using hp)
    refine ⟨_, hA, fun j u hu => ?_⟩
    rw [List.getElem?_map] at hu
    cases hj : l[j]? with
    | none => rw [hj] at hu; cases hu
    | some y =>
      rw [hj] at hu
      injection hu with hu
      subst hu
      obtain ⟨b', off', x', hA', _, hx', hc, _⟩ := u64_at (k := j) h (by rw [← hlen]; exact (List.getElem?_eq_some_iff.1 hj).1)
      rw [hA] at hA'
      injection hA' with hA'
      injection hA' with h1 h2
      subst h1; subst h2
      rw [hj] at hx'
      injection hx' with hx'
      subst hx'
      rw [add_plain, hc]; rfl
theorem u64_lt {w : World} {D : Dom} {A : Option Addr} {n c : Nat} {l : List Nat} (h : rpU64.sl w D A n c l) : ∀ x ∈ l, x < 18446744073709551616 := fun x hx => by
  obtain ⟨i, hi⟩ := List.getElem?_of_mem hx
  obtain ⟨_, _, y, _, _, hy, _, hlt⟩ := u64_at h (k := i) (by have := (List.getElem?_eq_some_iff.1 hi).1; have := (Rp.sl_len h).1; omega)
  rw [hi] at hy
  injection hy with hy
  omega
theorem own_u64 {w : World} {base : Nat} {e : TypeId} {A : Option Addr} {n c : Nat} {l : List Nat} (h : w.ownsRow base e 1 (.slice A n c) n (l.map uv)) (hl : ∀ x ∈ l, x < 18446744073709551616) : rpU64.sl w (fun k => some k = (Value.slice A n c).ownBlock) A n c l := by
  have hlen : l.length = n := by have := h.1; simpa using this
  subst hlen
  rcases h.2 with ⟨hv, h0⟩ | ⟨g, cap, cur, hv, hg, hh, hnc, hcm, hcs, htake⟩
  · injection hv with h1 _ h3
    subst h1; subst h3
    rw [h0]
    obtain rfl := List.eq_nil_of_length_eq_zero h0
    exact Rp.sl_nil _ _ _ _ _ (by decide)
  · injection hv with h1 _ h3
    subst h1; subst h3
    refine ⟨_, _, rfl, hnc, hcm, fun _ => ⟨g, 0, rfl, rfl, fun i x hx => ⟨[uv x], ⟨rfl, hl x (List.mem_of_getElem? hx)⟩, fun j u hu => ?_⟩⟩⟩
    have hj : j = 0 := by
      rcases Nat.eq_zero_or_pos j with h0 | h0
      · exact h0
      · rw [List.getElem?_eq_none (by simp; omega)] at hu; cases hu
    subst hj
    simp only [List.getElem?_cons_zero, Option.some.injEq] at hu
    subst hu
    have hi : (l.map uv)[i]? = some (uv x) := by rw [List.getElem?_map, hx]; rfl
    rw [← htake, List.getElem?_take] at hi
    split at hi
    · have := cell_of_row w g (0 + i * rpU64.size + 0) cur e (0, 0) hh
      rw [this]
      have e1 : 0 + i * rpU64.size + 0 = i := by show 0 + i * 1 + 0 = i; omega
      rw [e1]
      simpa using hi
    · cases hi
theorem own_dom {w : World} {base : Nat} {e : TypeId} {size n : Nat} {v : Value} {xs : List Value} (h : w.ownsRow base e size v n xs) : ∀ k, some k = v.ownBlock → k < w.heap.size := fun k hk => (h.lt k hk.symm).2

end Go.Proofs.Ytmdgmnaaopineaa
/- Reading how many, and rising lists: the program. -/
namespace Go.Proofs.Ytmdgmnaaopineaa
open Go.ChangeShapes Go.WideShapes Go.ChangeAt Go.RowKit
set_option linter.unusedVariables false
theorem risF_lt {l : List UInt8} : ∀ {k p : Nat} {f : Flt} {acc : List Nat}, (∀ x ∈ acc, x < 18446744073709551616) → ∀ x ∈ (risF l k p f acc).1, x < 18446744073709551616
  | 0, p, f, acc, h => h
  | k + 1, p, f, acc, h => by
    unfold risF
    split
    · split
      · intro x hx; cases hx
      · rename_i h1
        exact risF_lt (fun x hx => by
          rcases List.mem_append.1 hx with hx | hx
          · exact h x hx
          · simp only [List.mem_singleton] at hx; subst hx; omega)
    · intro x hx; cases hx
theorem risF_bad1 {l : List UInt8} {k p : Nat} {f : Flt} {acc : List Nat} (h : (vrdF l p f).2.2.1 ≠ 0) : risF l (k + 1) p f acc = ([], (vrdF l p f).2) := by rw [risF, if_neg h]
theorem risF_over {l : List UInt8} {k p : Nat} {f : Flt} {acc : List Nat} (h : 18446744073709551616 ≤ nx acc[acc.length - 1]? (vrdF l p f).1) : risF l (k + 1) p f acc = ([], (vrdF l p f).2.1, failF (vrdF l p f).2.2 13 p) := by
  rw [risF]
  by_cases h0 : (vrdF l p f).2.2.1 = 0
  · rw [if_pos h0, if_pos h]
  · rw [if_neg h0]
    unfold failF
    rw [if_neg h0]
theorem Chg.more' {g : Nat} {w2 w4 w5 : World} {base : Nat} {e : TypeId} {size n : Nat} {v : Value} {xs : List Value} (h : Chg (fun k => some k = v.ownBlock) w4 w5) (ho : w4.ownsRow base e size v n xs) (hb : w2.heap.size ≤ base) (hz : Chg (one g) w2 w4) : Chg (one g) w2 w5 :=
  ⟨h.os.trans hz.os, h.tape.trans hz.tape, h.output.trans hz.output, Nat.le_trans hz.size h.size, fun k hk hn => (h.block k (Nat.lt_of_lt_of_le hk hz.size) (fun e => by have := (ho.lt k e.symm).1; omega)).trans (hz.block k hk hn)⟩
section
variable {w : World} {D : Dom} {g : Nat} {l : List UInt8} {p : Nat} {f : Flt}
set_option maxRecDepth 100000 in
theorem vint_at (h : Rd w D g l p f) (hf : OkF f) (hl : l.length ≤ 1000000000) (m : Nat) (hm : m ≤ 1000) :
    Calls Try.prog 115 #[.pointer (some ⟨g, 0, none⟩), .int .i64 (m : Int)] w fun e w' => e = .returned (.int .i64 ((mostF l p f m).1 : Int)) ∧ Rd w' D g l (mostF l p f m).2.1 (mostF l p f m).2.2 ∧ Chg (one g) w w' := by
  have HV := Lib.hid (vmost_any h hf hl m)
  have hle := mostF_le (l := l) (p := p) (f := f) (m := m)
  generalize mostF l p f m = r at *
  obtain ⟨x, q, F⟩ := r
  simp only at HV hle ⊢
  have hc1 : IntKind.u64.wrap (m : Int) = (m : Int) := IntWalk.u64_in _ (by omega)
  have hc2 : IntKind.i64.wrap (x : Int) = (x : Int) := IntWalk.i64_in _ (by omega)
  clear h hf hl
  go_enter Try.func115, Try.ntmps115
  go_wp2_with fail
  refine HV.out.mono ?_; rintro e w1 ⟨rfl, hr, hc⟩
  have HR := Lib.hid hr
  have HC := Lib.hid hc
  clear hr hc
  go_wp2_with fail
  go_ret
  exact ⟨rfl, HR.out, HC.out⟩
set_option maxRecDepth 100000 in
theorem many_at (h : Rd w D g l p f) (hf : OkF f) (hl : l.length ≤ 1000000000) (m : Nat) (hm : m ≤ 1000) :
    Calls Try.prog 93 #[.pointer (some ⟨g, 0, none⟩), .int .i64 (m : Int)] w fun e w' => e = .returned (.int .i64 ((manyF l p f m).1 : Int)) ∧ Rd w' D g l (manyF l p f m).2.1 (manyF l p f m).2.2 ∧ Chg (one g) w w' := by
  have HA := Lib.hid (cat_at h)
  have HV := Lib.hid (vint_at h hf hl m hm)
  have hle := mostF_le (l := l) (p := p) (f := f) (m := m)
  unfold manyF
  generalize mostF l p f m = r at *
  obtain ⟨x, q, F⟩ := r
  simp only at HV hle ⊢
  clear h hf hl
  by_cases h0 : x = 0
  · rw [if_pos h0]
    subst h0
    go_enter Try.func93, Try.ntmps93
    go_wp2_with fail
    refine HA.out.mono ?_; rintro e w1 ⟨rfl, rfl⟩
    go_wp2_with fail
    refine HV.out.mono ?_; rintro e w1 ⟨rfl, hr, hc⟩
    have HR := Lib.hid hr
    have HC := Lib.hid hc
    clear hr hc
    go_wp2_with fail
    refine (cfail_at HR.out 3 _).mono ?_; rintro e w2 ⟨rfl, hr, hc⟩
    have HR2 := Lib.hid hr
    have HC2 := Lib.hid (HC.out.trans hc)
    clear hr hc
    go_wp2_with fail
    go_ret
    exact ⟨rfl, HR2.out, HC2.out⟩
  · rw [if_neg h0]
    have hq : ((x : Int) == 0) = false := by simpa using h0
    have hq2 : (x == 0) = false := by simpa using h0
    clear h0
    go_enter Try.func93, Try.ntmps93
    go_wp2_with fail
    refine HA.out.mono ?_; rintro e w1 ⟨rfl, rfl⟩
    go_wp2_with fail
    refine HV.out.mono ?_; rintro e w1 ⟨rfl, hr, hc⟩
    have HR := Lib.hid hr
    have HC := Lib.hid hc
    clear hr hc
    go_wp2_with fail
    go_ret
    exact ⟨rfl, HR.out, HC.out⟩
def RisIs (w : World) (D : Dom) (g : Nat) (l : List UInt8) (r : List Nat × Nat × Flt) (e : Ending) (w' : World) : Prop :=
  ∃ A c, e = .returned (.slice A r.1.length c) ∧ w'.ownsRow w.heap.size 22 1 (.slice A r.1.length c) r.1.length (r.1.map uv) ∧ Rd w' D g l r.2.1 r.2.2 ∧ Chg (one g) w w'
set_option maxRecDepth 100000 in
set_option maxHeartbeats 4000000 in
theorem rising_at (h : Rd w D g l p f) (hf : OkF f) (hl : l.length ≤ 1000000000) (n : Nat) (hn : n ≤ 1000) :
    Calls Try.prog 131 #[.pointer (some ⟨g, 0, none⟩), .int .i64 (n : Int)] w (RisIs w D g l (risF l n p f [])) := by
  obtain ⟨R, hR⟩ : ∃ R, R = risF l n p f [] := ⟨_, rfl⟩
  rw [← hR]
  have HR0 := Lib.hid hR
  have HRD := Lib.hid h
  have HOK := Lib.hid hf
  have hgl := h.lt
  have hmx : (if (n : Int) < 0 then (0 : Int) else (n : Int)) = (n : Int) := if_neg (by omega)
  clear h hf hR
  go_enter Try.func131, Try.ntmps131
  go_wp2_with fail
  go_loopw [5, 12] (fun o i wr => ∃ (k q : Nat) (F : Flt) (acc : List Nat) (A : Option Addr) (c : Nat), k ≤ n ∧ i = .int .i64 k ∧ o = .slice A k c ∧ acc.length = k ∧ Hid (OkF F) ∧ Hid (∀ x ∈ acc, x < 18446744073709551616) ∧ Hid (wr.ownsRow w.heap.size 22 1 (.slice A k c) k (acc.map uv)) ∧ Hid (Rd wr D g l q F) ∧ Hid (Chg (one g) w wr) ∧ Hid (risF l (n - k) q F acc = R)) (fun _ i _ => n - (intOf i).toNat)
  case atStart => exact ⟨0, p, f, [], none, 0, by omega, rfl, rfl, rfl, HOK.out, (fun x hx => by cases hx), World.ownsRow_nil _ _ _ _, HRD.out, Chg.refl _ _, HR0.out.symm⟩
  case round =>
    obtain ⟨k, q, F, acc, A, c, hk, rfl, rfl, hacc, hokF, hlt64, hown, hrd, hch, heq⟩ := hrel
    have HACC := Lib.hid hacc
    clear hacc
    have hzr := hch.out.size
    by_cases hkn : k < n
    case neg =>
      have hd : decide ((k : Int) < (n : Int)) = false := by simp; omega
      have hd2 : decide (k < n) = false := by simpa using hkn
      have HKN := Lib.hid (show n - k = 0 by omega)
      clear hkn
      go_wp2_with fail
      go_ret
      have hh := heq.out
      rw [HKN.out] at hh
      subst hh
      have hal := HACC.out
      subst hal
      exact ⟨A, c, rfl, hown.out, hrd.out, hch.out⟩
    case pos =>
      have hd : decide ((k : Int) < (n : Int)) = true := by simp; omega
      have hd2 : decide (k < n) = true := by simpa using hkn
      have HAT := Lib.hid (cat_at hrd.out)
      have HV := Lib.hid (vread_any hrd.out hokF.out hl)
      have hstep : n - k = (n - (k + 1)) + 1 := by omega
      have heq2 := heq.out
      rw [hstep] at heq2
      have hbad := risF_bad1 (l := l) (k := n - (k + 1)) (p := q) (f := F) (acc := acc)
      have hgood := risF_step (l := l) (k := n - (k + 1)) (p := q) (f := F) (acc := acc)
      have hover := risF_over (l := l) (k := n - (k + 1)) (p := q) (f := F) (acc := acc)
      have hx64 := vrdF_lt l q F
      have hx0 := @vrdF_fail0 l q F
      have hok2 := vrdF_ok (l := l) (p := q) hokF.out
      have hqle := (vrdF_le (l := l) (p := q) (f := F) hrd.out.le).1
      rw [heq2] at hbad hgood hover
      generalize vrdF l q F = r at *
      obtain ⟨x, q2, F2⟩ := r
      simp only at HV hbad hgood hover hx64 hx0 hok2 hqle
      have HOK2 := Lib.hid hok2
      have HBAD := Lib.hid hbad
      have HGOOD := Lib.hid hgood
      have HOVER := Lib.hid hover
      have HX64 := Lib.hid hx64
      clear hbad hgood hover heq2 hstep hx64 hok2 heq
      by_cases hk0 : k = 0
      case pos =>
        subst hk0
        have hnx : nx acc[acc.length - 1]? x = x := by
          obtain rfl := List.eq_nil_of_length_eq_zero HACC.out
          rfl
        have HNX := Lib.hid hnx
        have HY64 : Hid (x < 18446744073709551616) := HX64.out
        clear hnx
        by_cases hF : F2.1 = 0
        case pos =>
          have hq : (F2.1 == 0) = true := by simpa using hF
          have HGD : Hid (R = risF l (n - (0 + 1)) q2 F2 (acc ++ [x])) := by
            have := HGOOD.out hF (by rw [HNX.out]; have := HX64.out; omega)
            rw [HNX.out] at this
            exact this
          clear hF
          go_wp2_with fail
          refine HAT.out.mono ?_; rintro e w1 ⟨rfl, rfl⟩
          go_wp2_with fail
          refine HV.out.mono ?_; rintro e w2 ⟨rfl, hr, hc⟩
          have HR2 := Lib.hid hr
          have HC2 := Lib.hid (hch.out.trans hc)
          have HOW2 := Lib.hid (chO hown.out hc (fun j hj e => by have e : j = g := e; have := (hown.out.lt j hj).1; omega))
          clear hr hc
          go_wp2_with fail
          have HG := Lib.hid (cgood_at HR2.out)
          refine HG.out.mono ?_; rintro e w4 ⟨rfl, hb⟩
          have HR4 := Lib.hid (HR2.out.below hb)
          have HC4 := Lib.hid (HC2.out.trans (Chg.of_pure hb _))
          have HOW4 := Lib.hid (keepO HOW2.out hb)
          clear hb
          go_wp2_with (at_builtin; refine wpList_app rfl (.tmp 45) (.tmp 47) _ rfl elem64 rfl (HOW4.out.alloc _) rfl (Src.new w4 (.int .u64 ((x : Int))) _ rfl) (by unfold maxLen; omega) (by omega) (by have := HC4.out.size; simp; omega) ?_; intro A5 c5 w5 ho5 hg5 hat5; have HO5 := Lib.hid ho5; have HG5 := Lib.hid (show w4.grownBy w5 _ from ⟨hg5.os, hg5.tape, hg5.output, by have := hg5.size; simp at this; omega, fun j hj hn => (hg5.block j (by simp; omega) hn).trans (Below.heap_alloc _ _ _ hj)⟩); clear ho5 hg5 hat5)
          have hgn : some g ≠ (Value.slice A 0 c).ownBlock := fun e => by have := (HOW4.out.lt g e.symm).1; omega
          go_roundw
          case rel =>
            refine ⟨0 + 1, q2, F2, acc ++ [x], A5, c5, by omega, by go_num, rfl, by rw [List.length_append, HACC.out]; rfl, HOK2.out, ?_, ?_, ?_, ?_, ?_⟩
            · intro z hz
              rcases List.mem_append.1 hz with hz | hz
              · exact hlt64.out z hz
              · simp only [List.mem_singleton] at hz
                subst hz
                exact HY64.out
            · have := HO5.out
              rw [List.map_append]
              exact this
            · exact HR4.out.keep (fun j hj => HG5.out.block j (by rcases hj with rfl | hj; exact HR4.out.lt; exact HR4.out.dom j hj) (fun e => by
                rcases hj with rfl | hj
                · exact hgn e
                · have h1 := (HOW4.out.lt j e.symm).1
                  have h2 := HRD.out.dom j hj
                  omega)) HG5.out.size
            · exact (Chg.of_grown HG5.out).more' HOW4.out (Nat.le_refl _) HC4.out
            · exact HGD.out.symm
          case measure => simp [intOf]; omega
        case neg =>
          have hq : (F2.1 == 0) = false := by simpa using hF
          have HBD : Hid (R = ([], q2, F2)) := HBAD.out hF
          clear hF
          go_wp2_with fail
          refine HAT.out.mono ?_; rintro e w1 ⟨rfl, rfl⟩
          go_wp2_with fail
          refine HV.out.mono ?_; rintro e w2 ⟨rfl, hr, hc⟩
          have HR2 := Lib.hid hr
          have HC2 := Lib.hid (hch.out.trans hc)
          have HOW2 := Lib.hid (chO hown.out hc (fun j hj e => by have e : j = g := e; have := (hown.out.lt j hj).1; omega))
          clear hr hc
          go_wp2_with fail
          have HG := Lib.hid (cgood_at HR2.out)
          refine HG.out.mono ?_; rintro e w4 ⟨rfl, hb⟩
          have HR4 := Lib.hid (HR2.out.below hb)
          have HC4 := Lib.hid (HC2.out.trans (Chg.of_pure hb _))
          have HOW4 := Lib.hid (keepO HOW2.out hb)
          clear hb
          go_wp2_with fail
          go_ret
          have hR := HBD.out
          subst hR
          exact ⟨none, 0, rfl, World.ownsRow_nil _ _ _ _, HR4.out, HC4.out⟩
      case neg =>
        have hkp : 0 < k := by omega
        have hkI : (1 : Int) ≤ (k : Int) := by omega
        have hkI0 : (0 : Int) < (k : Int) := by omega
        have hd3 : decide ((0 : Int) < (k : Int)) = true := by simp; omega
        obtain ⟨a, ha⟩ : ∃ a, acc[k - 1]? = some a := ⟨_, List.getElem?_eq_getElem (by have := HACC.out; omega)⟩
        have ha64 : a < 18446744073709551616 := hlt64.out a (List.mem_of_getElem? ha)
        have HA := Lib.hid ha
        have hnx : nx acc[acc.length - 1]? x = a + x + 1 := by rw [HACC.out, ha]; rfl
        have HNX := Lib.hid hnx
        have hx64 := HX64.out
        clear hnx ha
        by_cases hov : 18446744073709551616 ≤ a + x + 1
        case neg =>
          have HY64 : Hid (a + x + 1 < 18446744073709551616) := (by omega : a + x + 1 < 18446744073709551616)
          have s1 : IntKind.u64.wrap ((a : Int) + 1) = (a : Int) + 1 := IntWalk.u64_in _ (by omega)
          have s2 : IntKind.u64.wrap ((x : Int) + ((a : Int) + 1)) = (x : Int) + ((a : Int) + 1) := IntWalk.u64_in _ (by omega)
          have t1 : (((a : Int) + 1) == 0) = false := by simp; omega
          have t2 : decide ((x : Int) + ((a : Int) + 1) < (x : Int)) = false := by simp; omega
          by_cases hF : F2.1 = 0
          case pos =>
            have hq : (F2.1 == 0) = true := by simpa using hF
            have HGD : Hid (R = risF l (n - (k + 1)) q2 F2 (acc ++ [a + x + 1])) := by
              have := HGOOD.out hF (by rw [HNX.out]; exact hov)
              rw [HNX.out] at this
              exact this
            have hyy : (x : Int) + ((a : Int) + 1) = ((a + x + 1 : Nat) : Int) := by omega
            have HYY := Lib.hid hyy
            clear hF hyy
            go_wp2_with fail
            refine HAT.out.mono ?_; rintro e w1 ⟨rfl, rfl⟩
            go_wp2_with fail
            refine HV.out.mono ?_; rintro e w2 ⟨rfl, hr, hc⟩
            have HR2 := Lib.hid hr
            have HC2 := Lib.hid (hch.out.trans hc)
            have HOW2 := Lib.hid (chO hown.out hc (fun j hj e => by have e : j = g := e; have := (hown.out.lt j hj).1; omega))
            clear hr hc
            obtain ⟨bo, hAo, hbo, _, _, hco, _⟩ := own_block HOW2.out hkp
            have hcell := hco (k - 1) (uv a) (by rw [List.getElem?_map, HA.out]; rfl)
            unfold uv at hcell
            have HAo := Lib.hid hAo
            clear hco
            subst hAo
            go_wp2_with fail
            have HG := Lib.hid (cgood_at HR2.out)
            refine HG.out.mono ?_; rintro e w4 ⟨rfl, hb⟩
            have HR4 := Lib.hid (HR2.out.below hb)
            have HC4 := Lib.hid (HC2.out.trans (Chg.of_pure hb _))
            have HOW4 := Lib.hid (keepO HOW2.out hb)
            clear hb
            go_wp2_with (at_builtin; refine wpList_app rfl (.tmp 45) (.tmp 47) _ rfl elem64 rfl (HOW4.out.alloc _) rfl (Src.new w4 (.int .u64 ((x : Int) + ((a : Int) + 1))) _ rfl) (by unfold maxLen; omega) (by omega) (by have := HC4.out.size; simp; omega) ?_; intro A5 c5 w5 ho5 hg5 hat5; have HO5 := Lib.hid ho5; have HG5 := Lib.hid (show w4.grownBy w5 _ from ⟨hg5.os, hg5.tape, hg5.output, by have := hg5.size; simp at this; omega, fun j hj hn => (hg5.block j (by simp; omega) hn).trans (Below.heap_alloc _ _ _ hj)⟩); clear ho5 hg5 hat5)
            have hgn : some g ≠ (Value.slice (some ⟨bo, 0, none⟩) k c).ownBlock := fun e => by have := (HOW4.out.lt g e.symm).1; omega
            go_roundw
            case rel =>
              refine ⟨k + 1, q2, F2, acc ++ [a + x + 1], A5, c5, by omega, by go_num, rfl, by rw [List.length_append, HACC.out]; rfl, HOK2.out, ?_, ?_, ?_, ?_, ?_⟩
              · intro z hz
                rcases List.mem_append.1 hz with hz | hz
                · exact hlt64.out z hz
                · simp only [List.mem_singleton] at hz
                  subst hz
                  exact HY64.out
              · have := HO5.out
                rw [HYY.out] at this
                rw [List.map_append]
                exact this
              · exact HR4.out.keep (fun j hj => HG5.out.block j (by rcases hj with rfl | hj; exact HR4.out.lt; exact HR4.out.dom j hj) (fun e => by
                  rcases hj with rfl | hj
                  · exact hgn e
                  · have h1 := (HOW4.out.lt j e.symm).1
                    have h2 := HRD.out.dom j hj
                    omega)) HG5.out.size
              · exact (Chg.of_grown HG5.out).more' HOW4.out (Nat.le_refl _) HC4.out
              · exact HGD.out.symm
            case measure => simp [intOf]; omega
          case neg =>
            have hq : (F2.1 == 0) = false := by simpa using hF
            have HBD : Hid (R = ([], q2, F2)) := HBAD.out hF
            clear hF
            go_wp2_with fail
            refine HAT.out.mono ?_; rintro e w1 ⟨rfl, rfl⟩
            go_wp2_with fail
            refine HV.out.mono ?_; rintro e w2 ⟨rfl, hr, hc⟩
            have HR2 := Lib.hid hr
            have HC2 := Lib.hid (hch.out.trans hc)
            have HOW2 := Lib.hid (chO hown.out hc (fun j hj e => by have e : j = g := e; have := (hown.out.lt j hj).1; omega))
            clear hr hc
            obtain ⟨bo, hAo, hbo, _, _, hco, _⟩ := own_block HOW2.out hkp
            have hcell := hco (k - 1) (uv a) (by rw [List.getElem?_map, HA.out]; rfl)
            unfold uv at hcell
            have HAo := Lib.hid hAo
            clear hco
            subst hAo
            go_wp2_with fail
            have HG := Lib.hid (cgood_at HR2.out)
            refine HG.out.mono ?_; rintro e w4 ⟨rfl, hb⟩
            have HR4 := Lib.hid (HR2.out.below hb)
            have HC4 := Lib.hid (HC2.out.trans (Chg.of_pure hb _))
            have HOW4 := Lib.hid (keepO HOW2.out hb)
            clear hb
            go_wp2_with fail
            go_ret
            have hR := HBD.out
            subst hR
            exact ⟨none, 0, rfl, World.ownsRow_nil _ _ _ _, HR4.out, HC4.out⟩
        case pos =>
          have HOV : Hid (R = ([], q2, failF F2 13 q)) := HOVER.out (by rw [HNX.out]; exact hov)
          obtain ⟨FF, hFF⟩ : ∃ FF, FF = failF F2 13 (q : Int) := ⟨_, rfl⟩
          have hFFb : (FF.1 == 0) = false := by
            have := failF_bad (f := F2) (c := 13) (a := (q : Int)) (by decide)
            rw [← hFF] at this
            simpa using this
          have HFF := Lib.hid hFF
          rw [← hFF] at HOV
          clear hFF
          by_cases hm : a = 18446744073709551615
          case pos =>
            have s1 : IntKind.u64.wrap ((a : Int) + 1) = 0 := by rw [hm]; rfl
            have t1 : ((0 : Int) == 0) = true := rfl
            have s2 : IntKind.u64.wrap (x : Int) = (x : Int) := IntWalk.u64_in _ (by omega)
            clear hm hov
            go_wp2_with fail
            refine HAT.out.mono ?_; rintro e w1 ⟨rfl, rfl⟩
            go_wp2_with fail
            refine HV.out.mono ?_; rintro e w2 ⟨rfl, hr, hc⟩
            have HR2 := Lib.hid hr
            have HC2 := Lib.hid (hch.out.trans hc)
            have HOW2 := Lib.hid (chO hown.out hc (fun j hj e => by have e : j = g := e; have := (hown.out.lt j hj).1; omega))
            clear hr hc
            obtain ⟨bo, hAo, hbo, _, _, hco, _⟩ := own_block HOW2.out hkp
            have hcell := hco (k - 1) (uv a) (by rw [List.getElem?_map, HA.out]; rfl)
            unfold uv at hcell
            have HAo := Lib.hid hAo
            clear hco
            subst hAo
            go_wp2_with fail
            refine (cfail_at HR2.out 13 _).mono ?_; rintro e w3 ⟨rfl, hr, hc⟩
            rw [← HFF.out] at hr
            have HR3 := Lib.hid hr
            have HC3 := Lib.hid (HC2.out.trans hc)
            have HOW3 := Lib.hid (chO HOW2.out hc (fun j hj e => by have e : j = g := e; have := (HOW2.out.lt j hj).1; omega))
            clear hr hc
            go_wp2_with fail
            have HG := Lib.hid (cgood_at HR3.out)
            refine HG.out.mono ?_; rintro e w4 ⟨rfl, hb⟩
            have HR4 := Lib.hid (HR3.out.below hb)
            have HC4 := Lib.hid (HC3.out.trans (Chg.of_pure hb _))
            have HOW4 := Lib.hid (keepO HOW3.out hb)
            clear hb
            go_wp2_with fail
            go_ret
            have hR := HOV.out
            subst hR
            exact ⟨none, 0, rfl, World.ownsRow_nil _ _ _ _, HR4.out, HC4.out⟩
          case neg =>
            have s1 : IntKind.u64.wrap ((a : Int) + 1) = (a : Int) + 1 := IntWalk.u64_in _ (by omega)
            have s2 : IntKind.u64.wrap ((x : Int) + ((a : Int) + 1)) = (x : Int) + ((a : Int) + 1) - 18446744073709551616 := by rw [IntKind.wrap_u64]; omega
            have t1 : (((a : Int) + 1) == 0) = false := by simp; omega
            have t2 : decide ((x : Int) + ((a : Int) + 1) - 18446744073709551616 < (x : Int)) = true := by simp; omega
            clear hm hov
            go_wp2_with fail
            refine HAT.out.mono ?_; rintro e w1 ⟨rfl, rfl⟩
            go_wp2_with fail
            refine HV.out.mono ?_; rintro e w2 ⟨rfl, hr, hc⟩
            have HR2 := Lib.hid hr
            have HC2 := Lib.hid (hch.out.trans hc)
            have HOW2 := Lib.hid (chO hown.out hc (fun j hj e => by have e : j = g := e; have := (hown.out.lt j hj).1; omega))
            clear hr hc
            obtain ⟨bo, hAo, hbo, _, _, hco, _⟩ := own_block HOW2.out hkp
            have hcell := hco (k - 1) (uv a) (by rw [List.getElem?_map, HA.out]; rfl)
            unfold uv at hcell
            have HAo := Lib.hid hAo
            clear hco
            subst hAo
            go_wp2_with fail
            refine (cfail_at HR2.out 13 _).mono ?_; rintro e w3 ⟨rfl, hr, hc⟩
            rw [← HFF.out] at hr
            have HR3 := Lib.hid hr
            have HC3 := Lib.hid (HC2.out.trans hc)
            have HOW3 := Lib.hid (chO HOW2.out hc (fun j hj e => by have e : j = g := e; have := (HOW2.out.lt j hj).1; omega))
            clear hr hc
            go_wp2_with fail
            have HG := Lib.hid (cgood_at HR3.out)
            refine HG.out.mono ?_; rintro e w4 ⟨rfl, hb⟩
            have HR4 := Lib.hid (HR3.out.below hb)
            have HC4 := Lib.hid (HC3.out.trans (Chg.of_pure hb _))
            have HOW4 := Lib.hid (keepO HOW3.out hb)
            clear hb
            go_wp2_with fail
            go_ret
            have hR := HOV.out
            subst hR
            exact ⟨none, 0, rfl, World.ownsRow_nil _ _ _ _, HR4.out, HC4.out⟩
end
end Go.Proofs.Ytmdgmnaaopineaa
/- Numbers written, one behind the other. -/
namespace Go.Proofs.Ytmdgmnaaopineaa
open Go.ChangeShapes Go.WideShapes Go.ChangeAt Go.RowKit
set_option linter.unusedVariables false
theorem own_mono {w : World} {base base' : Nat} {e : TypeId} {size : Nat} {v : Value} {n : Nat} {xs : List Value} (h : w.ownsRow base e size v n xs) (hb : base' ≤ base) : w.ownsRow base' e size v n xs := by
  refine ⟨h.1, ?_⟩
  rcases h.2 with h0 | ⟨g, cap, cur, hv, hg, hr⟩
  · exact .inl h0
  · exact .inr ⟨g, cap, cur, hv, Nat.le_trans hb hg, hr⟩
/-- What a writer holds behind some pieces. -/
def putsB (most : Int) : List UInt8 × Int → List (List UInt8) → List UInt8 × Int
  | s, [] => s
  | s, x :: xs => putsB most (putB most s.1 s.2 x) xs
theorem putsB_append (most : Int) : ∀ (s : List UInt8 × Int) (xs ys : List (List UInt8)), putsB most s (xs ++ ys) = putsB most (putsB most s xs) ys
  | s, [], ys => rfl
  | s, x :: xs, ys => by rw [List.cons_append, putsB, putsB, putsB_append most _ xs ys]
theorem putsB_snoc (most : Int) (s : List UInt8 × Int) (xs : List (List UInt8)) (y : List UInt8) : putsB most s (xs ++ [y]) = putB most (putsB most s xs).1 (putsB most s xs).2 y := by
  rw [putsB_append]; rfl
theorem putsB_fit {most : Int} : ∀ {b : List UInt8} {xs : List (List UInt8)}, ((b ++ xs.flatten).length : Int) ≤ most → putsB most (b, 0) xs = (b ++ xs.flatten, 0)
  | b, [], h => by simp [putsB]
  | b, x :: xs, h => by
    have hl : ((b ++ x) ++ xs.flatten) = b ++ (x :: xs).flatten := by simp
    have e : putB most b 0 x = (b ++ x, 0) := by
      unfold putB
      rw [if_neg (by simp), if_neg (by rw [List.flatten_cons] at h; simp only [List.length_append] at h; omega)]
    rw [putsB, e, putsB_fit (by rw [hl]; exact h), hl]
theorem putsB_bad {most : Int} {b : List UInt8} {code : Int} (h : code ≠ 0) : ∀ xs : List (List UInt8), putsB most (b, code) xs = (b, code)
  | [] => rfl
  | x :: xs => by
    have e : putB most b code x = (b, code) := by unfold putB; rw [if_pos h]
    rw [putsB, e, putsB_bad h xs]
theorem putB_len (most : Int) (b : List UInt8) (code : Int) (x : List UInt8) : (putB most b code x).1.length ≤ b.length + x.length := by
  unfold putB
  split
  · exact Nat.le_add_right _ _
  · split
    · exact Nat.le_add_right _ _
    · exact Nat.le_of_eq List.length_append
theorem putsB_len (most : Int) : ∀ (s : List UInt8 × Int) (xs : List (List UInt8)), (putsB most s xs).1.length ≤ s.1.length + xs.flatten.length
  | s, [] => by simp [putsB]
  | s, x :: xs => by
    have h1 := putB_len most s.1 s.2 x
    have h2 := putsB_len most (putB most s.1 s.2 x) xs
    rw [putsB, List.flatten_cons, List.length_append]
    omega
/-- **Whatever stays under the bound is written, or the first that does not sets the code.** -/
theorem putsB_code {most : Int} : ∀ {b : List UInt8} {xs : List (List UInt8)}, (putsB most (b, 0) xs).2 = 0 → putsB most (b, 0) xs = (b ++ xs.flatten, 0)
  | b, [], h => by simp [putsB]
  | b, x :: xs, h => by
    by_cases hl : most < b.length + x.length
    · have e : putB most b 0 x = (b, 2) := by unfold putB; rw [if_neg (by simp), if_pos hl]
      rw [putsB, e, putsB_bad (by decide)] at h
      exact absurd h (by simp)
    · have e : putB most b 0 x = (b ++ x, 0) := by unfold putB; rw [if_neg (by simp), if_neg hl]
      rw [putsB, e] at h ⊢
      rw [putsB_code h]
      simp
theorem vpieces_len : ∀ xs : List Nat, (∀ x ∈ xs, x < 18446744073709551616) → ((xs.map vbytes).flatten).length ≤ 10 * xs.length
  | [], _ => by simp
  | x :: xs, h => by
    have h1 := vbytes_10 (h x (by simp))
    have h2 := vpieces_len xs (fun y hy => h y (by simp [hy]))
    simp only [List.map_cons, List.flatten_cons, List.length_append, List.length_cons]
    omega
section
variable {w : World} {F : Dom} {g : Nat} {most : Int} {b : List UInt8} {code : Int}
theorem vput_at (h : Pen w F g most b code) (h0 : 0 ≤ most) (h1 : most ≤ 9223372036854775807) (hb : b.length ≤ 1000000000) (x : Nat) (hx : x < 18446744073709551616) :
    Calls Try.prog 104 #[.pointer (some ⟨g, 0, none⟩), .int .u64 (x : Int)] w fun e w' => e = .returned (.tuple #[]) ∧ ∃ F', Pen w' F' g most (putB most b code (vbytes x)).1 (putB most b code (vbytes x)).2 ∧ Chg F w w' ∧ (∀ k, F' k → F k ∨ w.heap.size ≤ k) := by
  have HP := Lib.hid h
  have HX := Lib.hid hx
  have hl10 := vbytes_10 hx
  clear h hx
  go_enter Try.func104, Try.ntmps104
  go_wp2_with fail
  refine (vbytes_any x HX.out).mono ?_; rintro e w1 ⟨A, n, c, rfl, ho, hb1⟩
  have HB := Lib.hid hb1
  have HO := Lib.hid ho
  have hnl : n = (vbytes x).length := by have := ho.1; simpa using this.symm
  have hn : n ≤ 1000000000 := by omega
  clear hb1 ho hnl
  go_wp2_with fail
  refine (put_at (HP.out.below HB.out) h0 h1 hb (own_bytes HO.out) (fun k hk => own_lt HO.out hk) hn).mono ?_; rintro e w2 ⟨rfl, F2, hp2, hch2, hF2⟩
  have HP2 := Lib.hid hp2
  have HCH := Lib.hid hch2
  have HF2 := Lib.hid hF2
  clear hp2 hch2 hF2
  go_wp2_with fail
  go_end0
  refine ⟨rfl, F2, HP2.out, (Chg.of_pure HB.out F).trans HCH.out, fun k hk => ?_⟩
  rcases HF2.out k hk with h | h
  · exact .inl h
  · exact .inr (Nat.le_trans HB.out.size h)
end
end Go.Proofs.Ytmdgmnaaopineaa
/- Reading how many, and rising lists: the reference. -/
namespace Go.Proofs.Ytmdgmnaaopineaa
open Go.ChangeShapes Go.WideShapes Go.ChangeAt Go.RowKit
set_option linter.unusedVariables false
abbrev riV (A : Option Addr) (n c : Nat) (r : Nat × Nat × Flt) : Value := .tuple #[.agg (rdV A n c r.2.1 r.2.2), .int .i64 (r.1 : Int)]
section
variable {D : Dom} {A : Option Addr} {n c : Nat} {l : List UInt8} {p : Nat} {f : Flt} {w : World}
set_option maxRecDepth 100000 in
set_option maxHeartbeats 1000000 in
theorem rint_any (h : rpU8.sl w D A n c l) (hD : ∀ k, D k → k < w.heap.size) (hf : OkF f) (hp : p ≤ n) (hn : n ≤ 1000000000) (m : Nat) (hm : m ≤ 1000) :
    Calls Try.prog 113 #[.agg (rdV A n c p f), .int .i64 (m : Int)] w fun e w' => e = .returned (riV A n c (mostF l p f m)) ∧ Below w.heap.size w w' := by
  have H : Hid ((Try.prog.info? 71).map (·.size) = some 4) := by unfold Hid; kernel_rfl
  have HSL : Hid (∀ w', Below w.heap.size w w' → rpU8.sl w' D A n c l ∧ ∀ k, D k → k < w'.heap.size) := fun w' hb => ⟨Rp.sl_below h hb hD, fun k hk => Nat.lt_of_lt_of_le (hD k hk) hb.size⟩
  have HM : Hid (∀ w', Below w.heap.size w w' → Calls Try.prog 138 #[.agg (rdV A n c p f), .int .u64 (m : Int)] w' fun e w'' => e = .returned (rnV A n c (mostF l p f m)) ∧ Below w'.heap.size w' w'') := fun w' hb => rmost_any (HSL.out w' hb).1 (HSL.out w' hb).2 hf hp hn m
  have hle := mostF_le (l := l) (p := p) (f := f) (m := m)
  generalize mostF l p f m = r at *
  obtain ⟨x, q, F1, F2⟩ := r
  simp only at HM hle ⊢
  have hc1 : IntKind.u64.wrap (m : Int) = (m : Int) := IntWalk.u64_in _ (by omega)
  have hc2 : IntKind.i64.wrap (x : Int) = (x : Int) := IntWalk.i64_in _ (by omega)
  have HZ := Lib.hid (cbelow_two w (.cells (rdV A n c p f) 71) (.cells rdZ 71))
  have HK := Lib.hid ((Blk.new w 71 (rdV A n c p f)).alloc (.cells rdZ 71))
  have HR := Lib.hid (cblk_top w (rdV A n c p f) rdZ 71 71)
  clear h hD hf hp hn
  go_enter Try.func113, Try.ntmps113
  go_wp2_with fail
  generalize World.alloc (World.alloc _ _) _ = w0 at *
  have hz0 := HZ.out.size
  have hr0 := (show Blk w0 _ _ _ from HR.out).lt
  have hk0 := (show Blk w0 _ _ _ from HK.out).lt
  go_wp2_with fail
  refine (HM.out _ HZ.out).mono ?_; rintro e w1 ⟨rfl, hb1⟩
  have HB1 := Lib.hid (HZ.out.trans (hb1.mono hz0))
  have hk1 : Blk w1 w.heap.size 71 (rdV A n c p f) := Blk.below HK.out hb1 hk0
  have HK1 := Lib.hid hk1
  have HR1 : Hid (Blk w1 (w.heap.size + 1) 71 rdZ) := Blk.below HR.out hb1 hr0
  have hz1 := hb1.size
  have hl1 := hk1.lt
  have d1 := hk1.cell 1
  clear hb1 hk1
  go_wp2_with (refine wpList_put_row rfl 71 (.tmp 4) (.tmp 19) rfl (w.heap.size + 1) (rdV A n c q (F1, F2)) rfl rfl 71 _ (HR1.out.alloc _) H.out rfl (by simp [Value.oneCell']) ?_; intro w9 hblk hgr)
  have hbz : Below w.heap.size w w9 := (HB1.out.alloc (by omega) _).grown hgr ((HB1.out.alloc (by omega) _)).size (fun k hk => by injection hk with hk; omega)
  have e0 := hblk.cell 0
  have e1 := hblk.cell 1
  have e2 := hblk.cell 2
  have e3 := hblk.cell 3
  refine bodyPost_ret (v := riV A n c (x, q, (F1, F2))) (by simp [results, Try.results113, go_sem, e0, e1, e2, e3]) rfl ⟨rfl, hbz⟩
set_option maxRecDepth 100000 in
set_option maxHeartbeats 1000000 in
theorem rmany_any (h : rpU8.sl w D A n c l) (hD : ∀ k, D k → k < w.heap.size) (hf : OkF f) (hp : p ≤ n) (hn : n ≤ 1000000000) (m : Nat) (hm : m ≤ 1000) :
    Calls Try.prog 97 #[.agg (rdV A n c p f), .int .i64 (m : Int)] w fun e w' => e = .returned (riV A n c (manyF l p f m)) ∧ Below w.heap.size w w' := by
  have H : Hid ((Try.prog.info? 71).map (·.size) = some 4) := by unfold Hid; kernel_rfl
  have HSL : Hid (∀ w', Below w.heap.size w w' → rpU8.sl w' D A n c l ∧ ∀ k, D k → k < w'.heap.size) := fun w' hb => ⟨Rp.sl_below h hb hD, fun k hk => Nat.lt_of_lt_of_le (hD k hk) hb.size⟩
  have HM : Hid (∀ w', Below w.heap.size w w' → Calls Try.prog 113 #[.agg (rdV A n c p f), .int .i64 (m : Int)] w' fun e w'' => e = .returned (riV A n c (mostF l p f m)) ∧ Below w'.heap.size w' w'') := fun w' hb => rint_any (HSL.out w' hb).1 (HSL.out w' hb).2 hf hp hn m hm
  unfold manyF
  generalize mostF l p f m = r at *
  obtain ⟨x, q, F1, F2⟩ := r
  simp only at HM ⊢
  have HZ := Lib.hid (cbelow_two w (.cells (rdV A n c p f) 71) (.cells rdZ 71))
  have HK := Lib.hid ((Blk.new w 71 (rdV A n c p f)).alloc (.cells rdZ 71))
  have HR := Lib.hid (cblk_top w (rdV A n c p f) rdZ 71 71)
  clear h hD hf hp hn
  by_cases h0 : x = 0
  case pos =>
    rw [if_pos h0]
    subst h0
    obtain ⟨G1, G2, hG⟩ : ∃ G1 G2, failF (F1, F2) 3 (p : Int) = (G1, G2) := ⟨_, _, rfl⟩
    have HFAIL : Hid (∀ w, Calls Try.prog 95 #[.agg (rdV A n c q (F1, F2)), .int .i64 3, .int .i64 (p : Int)] w fun e w' => e = .returned (.agg (rdV A n c q (G1, G2))) ∧ Below w.heap.size w w') := fun w => by have := rfail_any A n c q (F1, F2) 3 p w; rwa [hG] at this
    rw [hG]
    clear hG
    go_enter Try.func97, Try.ntmps97
    go_wp2_with fail
    generalize World.alloc (World.alloc _ _) _ = w0 at *
    have hz0 := HZ.out.size
    have hr0 := (show Blk w0 _ _ _ from HR.out).lt
    have hk0 := (show Blk w0 _ _ _ from HK.out).lt
    go_wp2_with fail
    refine (HM.out _ HZ.out).mono ?_; rintro e w1 ⟨rfl, hb1⟩
    have HB1 := Lib.hid (HZ.out.trans (hb1.mono hz0))
    have hk1 : Blk w1 w.heap.size 71 (rdV A n c p f) := Blk.below HK.out hb1 hk0
    have HK1 := Lib.hid hk1
    have HR1 : Hid (Blk w1 (w.heap.size + 1) 71 rdZ) := Blk.below HR.out hb1 hr0
    have hz1 := hb1.size
    have hl1 := hk1.lt
    have d1 := hk1.cell 1
    clear hb1 hk1
    go_wp2_with fail
    have hn1 := blk11 w1 71 (rdV A n c q (F1, F2))
    have HR1a := Lib.hid (HR1.out.alloc (.cells (rdV A n c q (F1, F2)) 71))
    have HB1a := Lib.hid (HB1.out.alloc (by omega) (.cells (rdV A n c q (F1, F2)) 71))
    have HN1 := Lib.hid hn1
    clear d1 hn1
    generalize hgn : w1.heap.size = gn at *
    generalize World.alloc w1 _ = w2 at *
    refine (HFAIL.out _).mono ?_; rintro e w3 ⟨rfl, hb⟩
    have HR3 := Lib.hid (keepB (show Blk w2 (w.heap.size + 1) 71 rdZ from HR1a.out) hb)
    have HN3 := Lib.hid (keepB (show Blk w2 gn 71 _ from HN1.out) hb)
    have HB3 := Lib.hid (stepB HB1a.out hb)
    clear hb
    go_wp2_with (first
      | (refine wpList_put_row rfl 71 (.tmp 6) (.tmp 19) rfl gn (rdV A n c q (G1, G2)) rfl rfl 71 _ HN3.out H.out rfl (by simp [Value.oneCell']) ?_; intro w4 hblk4 hgr4; have g0 := hblk4.cell 0; have g1 := hblk4.cell 1; have g2 := hblk4.cell 2; have g3 := hblk4.cell 3; have HR4 := Lib.hid ((show Blk w3 (w.heap.size + 1) 71 rdZ from HR3.out).grown hgr4 (by simp; omega)); have HB4 := Lib.hid (HB3.out.grown hgr4 HB3.out.size (fun k hk => by injection hk with hk; omega)); clear hblk4 hgr4)
      | (refine wpList_put_row rfl 71 (.tmp 4) (.tmp 20) rfl (w.heap.size + 1) (rdV A n c q (G1, G2)) rfl rfl 71 _ HR4.out H.out rfl (by simp [Value.oneCell']) ?_; intro w9 hblk hgr))
    have hbz : Below w.heap.size w w9 := HB4.out.grown hgr HB4.out.size (fun k hk => by injection hk with hk; omega)
    have e0 := hblk.cell 0
    have e1 := hblk.cell 1
    have e2 := hblk.cell 2
    have e3 := hblk.cell 3
    refine bodyPost_ret (v := riV A n c (0, q, (G1, G2))) (by simp [results, Try.results97, go_sem, e0, e1, e2, e3]) rfl ⟨rfl, hbz⟩
  case neg =>
    rw [if_neg h0]
    have hq : ((x : Int) == 0) = false := by simpa using h0
    have hq2 : (x == 0) = false := by simpa using h0
    clear h0
    go_enter Try.func97, Try.ntmps97
    go_wp2_with fail
    generalize World.alloc (World.alloc _ _) _ = w0 at *
    have hz0 := HZ.out.size
    have hr0 := (show Blk w0 _ _ _ from HR.out).lt
    have hk0 := (show Blk w0 _ _ _ from HK.out).lt
    go_wp2_with fail
    refine (HM.out _ HZ.out).mono ?_; rintro e w1 ⟨rfl, hb1⟩
    have HB1 := Lib.hid (HZ.out.trans (hb1.mono hz0))
    have hk1 : Blk w1 w.heap.size 71 (rdV A n c p f) := Blk.below HK.out hb1 hk0
    have HK1 := Lib.hid hk1
    have HR1 : Hid (Blk w1 (w.heap.size + 1) 71 rdZ) := Blk.below HR.out hb1 hr0
    have hz1 := hb1.size
    have hl1 := hk1.lt
    have d1 := hk1.cell 1
    clear hb1 hk1
    clear d1
    go_wp2_with (refine wpList_put_row rfl 71 (.tmp 4) (.tmp 20) rfl (w.heap.size + 1) (rdV A n c q (F1, F2)) rfl rfl 71 _ (HR1.out.alloc _) H.out rfl (by simp [Value.oneCell']) ?_; intro w9 hblk hgr)
    have hbz : Below w.heap.size w w9 := (HB1.out.alloc (by omega) _).grown hgr ((HB1.out.alloc (by omega) _)).size (fun k hk => by injection hk with hk; omega)
    have e0 := hblk.cell 0
    have e1 := hblk.cell 1
    have e2 := hblk.cell 2
    have e3 := hblk.cell 3
    refine bodyPost_ret (v := riV A n c (x, q, (F1, F2))) (by simp [results, Try.results97, go_sem, e0, e1, e2, e3]) rfl ⟨rfl, hbz⟩
def RlIs (w : World) (A : Option Addr) (n c : Nat) (r : List Nat × Nat × Flt) (e : Ending) (w' : World) : Prop :=
  ∃ A2 c2, e = .returned (.tuple #[.agg (rdV A n c r.2.1 r.2.2), .slice A2 r.1.length c2]) ∧ w'.ownsRow w.heap.size 22 1 (.slice A2 r.1.length c2) r.1.length (r.1.map uv) ∧ Below w.heap.size w w'
set_option maxRecDepth 100000 in
set_option maxHeartbeats 4000000 in
theorem rris_any (h : rpU8.sl w D A n c l) (hD : ∀ k, D k → k < w.heap.size) (hf : OkF f) (hp : p ≤ n) (hn : n ≤ 1000000000) (m : Nat) (hm : m ≤ 1000) :
    Calls Try.prog 98 #[.agg (rdV A n c p f), .int .i64 (m : Int)] w (RlIs w A n c (risF l m p f [])) := by
  have H : Hid ((Try.prog.info? 71).map (·.size) = some 4) := by unfold Hid; kernel_rfl
  have HSL : Hid (∀ w', Below w.heap.size w w' → rpU8.sl w' D A n c l ∧ ∀ k, D k → k < w'.heap.size) := fun w' hb => ⟨Rp.sl_below h hb hD, fun k hk => Nat.lt_of_lt_of_le (hD k hk) hb.size⟩
  have HRD : Hid (∀ w' q F, Below w.heap.size w w' → OkF F → q ≤ n → Calls Try.prog 96 #[.agg (rdV A n c q F)] w' fun e w'' => e = .returned (rnV A n c (vrdF l q F)) ∧ Below w'.heap.size w' w'') := fun w' q F hb h1 h2 => rread_any (HSL.out w' hb).1 (HSL.out w' hb).2 h1 h2 hn
  obtain ⟨R, hR⟩ : ∃ R, R = risF l m p f [] := ⟨_, rfl⟩
  rw [← hR]
  have HR0 := Lib.hid hR
  have HOK := Lib.hid hf
  have HP := Lib.hid hp
  have hll : l.length = n := (Rp.sl_len h).1
  have HLL := Lib.hid hll
  have HZ := Lib.hid (cbelow_two w (.cells (rdV A n c p f) 71) (.cells rdZ 71))
  have HK := Lib.hid ((Blk.new w 71 (rdV A n c p f)).alloc (.cells rdZ 71))
  have HR := Lib.hid (cblk_top w (rdV A n c p f) rdZ 71 71)
  clear h hD hf hp hn hR hll
  go_enter Try.func98, Try.ntmps98
  go_wp2_with fail
  generalize World.alloc (World.alloc _ _) _ = w0 at *
  have hz0 := HZ.out.size
  have hr0 := (show Blk w0 _ _ _ from HR.out).lt
  have hk0 := (show Blk w0 _ _ _ from HK.out).lt
  go_wp2_with fail
  go_loopw [6, 7] (fun o i wr => ∃ (k q : Nat) (F : Flt) (acc : List Nat) (Aa : Option Addr) (ca : Nat), k ≤ m ∧ i = .int .i64 k ∧ o = .slice Aa k ca ∧ acc.length = k ∧ Hid (q ≤ n) ∧ Hid (OkF F) ∧ Hid (∀ x ∈ acc, x < 18446744073709551616) ∧ Hid (wr.ownsRow (w.heap.size + 2) 22 1 (.slice Aa k ca) k (acc.map uv)) ∧ Hid (Blk wr w.heap.size 71 (rdV A n c q F)) ∧ Hid (Blk wr (w.heap.size + 1) 71 rdZ) ∧ Hid (Below w.heap.size w wr) ∧ Hid (risF l (m - k) q F acc = R)) (fun _ i _ => m - (intOf i).toNat)
  case atStart => exact ⟨0, p, f, [], none, 0, by omega, rfl, rfl, rfl, HP.out, HOK.out, (fun x hx => by cases hx), World.ownsRow_nil _ _ _ _, HK.out, HR.out, HZ.out, HR0.out.symm⟩
  case round =>
    obtain ⟨k, q, F, acc, Aa, ca, hk, rfl, rfl, hacc, hqn, hokF, hlt64, hown, hkk, hrr, hbel, heq⟩ := hrel
    have HA71 := Lib.hid hacc
    clear hacc
    have hzr := hbel.out.size
    have hklt := (show Blk wr w.heap.size 71 _ from hkk.out).lt
    have hrlt := (show Blk wr (w.heap.size + 1) 71 _ from hrr.out).lt
    have d0 := (show Blk wr w.heap.size 71 _ from hkk.out).cell 0
    have d1 := (show Blk wr w.heap.size 71 _ from hkk.out).cell 1
    have d2 := (show Blk wr w.heap.size 71 _ from hkk.out).cell 2
    have d3 := (show Blk wr w.heap.size 71 _ from hkk.out).cell 3
    by_cases hkn : k < m
    case neg =>
      have hd : decide ((k : Int) < (m : Int)) = false := by simp; omega
      have hd2 : decide (k < m) = false := by simpa using hkn
      have HKN := Lib.hid (show m - k = 0 by omega)
      clear hkn
      go_wp2_with (refine wpList_put_row rfl 71 (.tmp 4) (.tmp 58) rfl (w.heap.size + 1) (rdV A n c q F) rfl rfl 71 _ hrr.out H.out rfl (by simp [Value.oneCell']) ?_; intro w9 hblk hgr)
      have hh := heq.out
      rw [HKN.out] at hh
      subst hh
      have hal := HA71.out
      subst hal
      have e0 := hblk.cell 0
      have e1 := hblk.cell 1
      have e2 := hblk.cell 2
      have e3 := hblk.cell 3
      have ho9 : w9.ownsRow w.heap.size 22 1 (.slice Aa acc.length ca) acc.length (acc.map uv) := own_mono (ownsRow_same hown.out (fun j hj => hgr.block j (hown.out.lt j hj).2 (fun e => by injection e with e; subst e; have := (hown.out.lt _ hj).1; omega))) (by omega)
      exact bodyPost_ret (v := .tuple #[.agg (rdV A n c q F), .slice Aa acc.length ca]) (by simp [results, Try.results98, go_sem, e0, e1, e2, e3]) rfl ⟨Aa, ca, rfl, ho9, hbel.out.grown hgr hbel.out.size (fun j hj => by injection hj with hj; omega)⟩
    case pos =>
      have hd : decide ((k : Int) < (m : Int)) = true := by simp; omega
      have hd2 : decide (k < m) = true := by simpa using hkn
      have HV := Lib.hid (HRD.out wr q F hbel.out hokF.out hqn.out)
      have hstep : m - k = (m - (k + 1)) + 1 := by omega
      have heq2 := heq.out
      rw [hstep] at heq2
      have hbad := risF_bad1 (l := l) (k := m - (k + 1)) (p := q) (f := F) (acc := acc)
      have hgood := risF_step (l := l) (k := m - (k + 1)) (p := q) (f := F) (acc := acc)
      have hover := risF_over (l := l) (k := m - (k + 1)) (p := q) (f := F) (acc := acc)
      have hx64 := vrdF_lt l q F
      have hok2 := vrdF_ok (l := l) (p := q) hokF.out
      have hqle := (vrdF_le (l := l) (p := q) (f := F) (by rw [HLL.out]; exact hqn.out)).1
      rw [HLL.out] at hqle
      rw [heq2] at hbad hgood hover
      generalize vrdF l q F = r at *
      obtain ⟨x, q2, F2⟩ := r
      simp only at HV hbad hgood hover hx64 hok2 hqle
      have HOK2 := Lib.hid hok2
      have HBAD := Lib.hid hbad
      have HGOOD := Lib.hid hgood
      have HOVER := Lib.hid hover
      have HX64 := Lib.hid hx64
      have HQ2 := Lib.hid hqle
      clear hbad hgood hover heq2 hstep hx64 hok2 heq hqle
      by_cases hF : F2.1 = 0
      case neg =>
        have hq : (F2.1 != 0) = true := by simpa using hF
        have hq2 : (F2.1 == 0) = false := by simpa using hF
        have HBD : Hid (R = ([], q2, F2)) := HBAD.out hF
        clear hF
        go_wp2_with fail
        refine HV.out.mono ?_; rintro e w1 ⟨rfl, hb⟩
        have HK1 := Lib.hid (keepB (show Blk wr w.heap.size 71 _ from hkk.out) hb)
        have HR1 := Lib.hid (keepB (show Blk wr (w.heap.size + 1) 71 _ from hrr.out) hb)
        have HB1 := Lib.hid (stepB hbel.out hb)
        have HW1 := Lib.hid (keepO hown.out hb)
        have hz1 := hb.size
        clear hb d0 d1 d2 d3
        have HK2 := Lib.hid (Blk.alloc (show Blk w1 w.heap.size 71 _ from HK1.out) (.cells (rdV A n c q2 F2) 71))
        have HR2 := Lib.hid (Blk.alloc (show Blk w1 (w.heap.size + 1) 71 _ from HR1.out) (.cells (rdV A n c q2 F2) 71))
        have HB2 := Lib.hid (HB1.out.alloc HB1.out.size (.cells (rdV A n c q2 F2) 71))
        have HW2 := Lib.hid (HW1.out.alloc (.cells (rdV A n c q2 F2) 71))
        have hl1 := (show Blk w1 w.heap.size 71 _ from HK1.out).lt
        go_wp2_with (first
          | (refine wpList_put_row rfl 71 (.tmp 2) (.tmp 24) rfl w.heap.size (rdV A n c q2 F2) rfl rfl 71 _ HK2.out H.out rfl (by simp [Value.oneCell']) ?_; intro w3 hblk hgr; have d0 := hblk.cell 0; have d1 := hblk.cell 1; have d2 := hblk.cell 2; have d3 := hblk.cell 3; have HK3 := Lib.hid hblk; have HR3 := Lib.hid ((show Blk (w1.alloc (.cells (rdV A n c q2 F2) 71)) (w.heap.size + 1) 71 _ from HR2.out).grown hgr (by simp)); have HB3 := Lib.hid (HB2.out.grown hgr HB2.out.size (fun j hj => by injection hj with hj; omega)); have HW3 := Lib.hid (ownsRow_same HW2.out (fun j hj => hgr.block j (HW2.out.lt j hj).2 (fun e => by injection e with e; subst e; have := (HW2.out.lt _ hj).1; omega))); clear hblk hgr)
          | (refine wpList_put_row rfl 71 (.tmp 4) (.tmp 29) rfl (w.heap.size + 1) (rdV A n c q2 F2) rfl rfl 71 _ HR3.out H.out rfl (by simp [Value.oneCell']) ?_; intro w9 hblk9 hgr9))
        have e0 := hblk9.cell 0
        have e1 := hblk9.cell 1
        have e2 := hblk9.cell 2
        have e3 := hblk9.cell 3
        have hRR := HBD.out
        subst hRR
        exact bodyPost_ret (v := .tuple #[.agg (rdV A n c q2 F2), .slice none 0 0]) (by simp [results, Try.results98, go_sem, e0, e1, e2, e3]) rfl ⟨none, 0, rfl, World.ownsRow_nil _ _ _ _, HB3.out.grown hgr9 (HB3.out).size (fun j hj => by injection hj with hj; omega)⟩
      case pos =>
        have hq : (F2.1 != 0) = false := by simpa using hF
        have hq2 : (F2.1 == 0) = true := by simpa using hF
        have HF := Lib.hid hF
        clear hF
        by_cases hk0 : k = 0
        case pos =>
          subst hk0
          have hnx : nx acc[acc.length - 1]? x = x := by
            obtain rfl := List.eq_nil_of_length_eq_zero HA71.out
            rfl
          have HNX := Lib.hid hnx
          have HY64 : Hid (x < 18446744073709551616) := HX64.out
          have HGD : Hid (R = risF l (m - (0 + 1)) q2 F2 (acc ++ [x])) := by
            have := HGOOD.out HF.out (by rw [HNX.out]; have := HX64.out; omega)
            rw [HNX.out] at this
            exact this
          clear hnx
          go_wp2_with fail
          refine HV.out.mono ?_; rintro e w1 ⟨rfl, hb⟩
          have HK1 := Lib.hid (keepB (show Blk wr w.heap.size 71 _ from hkk.out) hb)
          have HR1 := Lib.hid (keepB (show Blk wr (w.heap.size + 1) 71 _ from hrr.out) hb)
          have HB1 := Lib.hid (stepB hbel.out hb)
          have HW1 := Lib.hid (keepO hown.out hb)
          have hz1 := hb.size
          clear hb d0 d1 d2 d3
          have HK2 := Lib.hid (Blk.alloc (show Blk w1 w.heap.size 71 _ from HK1.out) (.cells (rdV A n c q2 F2) 71))
          have HR2 := Lib.hid (Blk.alloc (show Blk w1 (w.heap.size + 1) 71 _ from HR1.out) (.cells (rdV A n c q2 F2) 71))
          have HB2 := Lib.hid (HB1.out.alloc HB1.out.size (.cells (rdV A n c q2 F2) 71))
          have HW2 := Lib.hid (HW1.out.alloc (.cells (rdV A n c q2 F2) 71))
          have hl1 := (show Blk w1 w.heap.size 71 _ from HK1.out).lt
          go_wp2_with (first
            | (refine wpList_put_row rfl 71 (.tmp 2) (.tmp 24) rfl w.heap.size (rdV A n c q2 F2) rfl rfl 71 _ HK2.out H.out rfl (by simp [Value.oneCell']) ?_; intro w3 hblk hgr; have d0 := hblk.cell 0; have d1 := hblk.cell 1; have d2 := hblk.cell 2; have d3 := hblk.cell 3; have HK3 := Lib.hid hblk; have HR3 := Lib.hid ((show Blk (w1.alloc (.cells (rdV A n c q2 F2) 71)) (w.heap.size + 1) 71 _ from HR2.out).grown hgr (by simp)); have HB3 := Lib.hid (HB2.out.grown hgr HB2.out.size (fun j hj => by injection hj with hj; omega)); have HW3 := Lib.hid (ownsRow_same HW2.out (fun j hj => hgr.block j (HW2.out.lt j hj).2 (fun e => by injection e with e; subst e; have := (HW2.out.lt _ hj).1; omega))); clear hblk hgr)
            | (at_builtin; refine wpList_app rfl (.tmp 54) (.tmp 56) _ rfl elem64 rfl (HW3.out.alloc _) rfl (Src.new w3 (.int .u64 ((x : Int))) _ rfl) (by unfold maxLen; omega) (by omega) (by have := (show Blk w3 (w.heap.size + 1) _ _ from HR3.out).lt; simp; omega) ?_; intro A5 c5 w5 ho5 hg5 hat5; have HO5 := Lib.hid ho5; have HG5 := Lib.hid (show w3.grownBy w5 _ from ⟨hg5.os, hg5.tape, hg5.output, by have := hg5.size; simp at this; omega, fun j hj hn => (hg5.block j (by simp; omega) hn).trans (Below.heap_alloc _ _ _ hj)⟩); clear ho5 hg5 hat5))
          have hKn : some w.heap.size ≠ (Value.slice Aa 0 ca).ownBlock := fun e => by have := (HW3.out.lt _ e.symm).1; omega
          have hRn : some (w.heap.size + 1) ≠ (Value.slice Aa 0 ca).ownBlock := fun e => by have := (HW3.out.lt _ e.symm).1; omega
          go_roundw
          case rel =>
            refine ⟨0 + 1, q2, F2, acc ++ [x], A5, c5, by omega, by go_num, rfl, by rw [List.length_append, HA71.out]; rfl, HQ2.out, HOK2.out, ?_, ?_, ?_, ?_, ?_, HGD.out.symm⟩
            · intro z hz
              rcases List.mem_append.1 hz with hz | hz
              · exact hlt64.out z hz
              · simp only [List.mem_singleton] at hz
                subst hz
                exact HY64.out
            · have := HO5.out
              rw [List.map_append]
              exact this
            · exact (show Blk w3 w.heap.size 71 _ from HK3.out).grown HG5.out hKn
            · exact (show Blk w3 (w.heap.size + 1) 71 _ from HR3.out).grown HG5.out hRn
            · exact HB3.out.grown HG5.out HB3.out.size (fun j hj => by have := (HW3.out.lt j hj).1; omega)
          case measure => simp [intOf]; omega
        case neg =>
          have hkp : 0 < k := by omega
          have hkI : (1 : Int) ≤ (k : Int) := by omega
          have hkI0 : (0 : Int) < (k : Int) := by omega
          have hd3 : decide ((0 : Int) < (k : Int)) = true := by simp; omega
          obtain ⟨a, ha⟩ : ∃ a, acc[k - 1]? = some a := ⟨_, List.getElem?_eq_getElem (by have := HA71.out; omega)⟩
          have ha64 : a < 18446744073709551616 := hlt64.out a (List.mem_of_getElem? ha)
          have HA := Lib.hid ha
          have hnx : nx acc[acc.length - 1]? x = a + x + 1 := by rw [HA71.out, ha]; rfl
          have HNX := Lib.hid hnx
          have hx64 := HX64.out
          have s0 : IntKind.u64.wrap ((18446744073709551615 : Int) - (a : Int)) = (18446744073709551615 : Int) - (a : Int) := IntWalk.u64_in _ (by omega)
          clear hnx ha
          by_cases hov : 18446744073709551616 ≤ a + x + 1
          case neg =>
            have HY64 : Hid (a + x + 1 < 18446744073709551616) := (by omega : a + x + 1 < 18446744073709551616)
            have t1 : decide ((18446744073709551615 : Int) - (a : Int) < (x : Int)) = false := by simp; omega
            have t2 : ((x : Int) == (18446744073709551615 : Int) - (a : Int)) = false := by simp; omega
            have s1 : IntKind.u64.wrap ((a : Int) + (x : Int)) = (a : Int) + (x : Int) := IntWalk.u64_in _ (by omega)
            have s2 : IntKind.u64.wrap ((a : Int) + (x : Int) + 1) = (a : Int) + (x : Int) + 1 := IntWalk.u64_in _ (by omega)
            have HYY : Hid ((a : Int) + (x : Int) + 1 = ((a + x + 1 : Nat) : Int)) := (by omega : (a : Int) + (x : Int) + 1 = ((a + x + 1 : Nat) : Int))
            have HGD : Hid (R = risF l (m - (k + 1)) q2 F2 (acc ++ [a + x + 1])) := by
              have := HGOOD.out HF.out (by rw [HNX.out]; exact hov)
              rw [HNX.out] at this
              exact this
            go_wp2_with fail
            refine HV.out.mono ?_; rintro e w1 ⟨rfl, hb⟩
            have HK1 := Lib.hid (keepB (show Blk wr w.heap.size 71 _ from hkk.out) hb)
            have HR1 := Lib.hid (keepB (show Blk wr (w.heap.size + 1) 71 _ from hrr.out) hb)
            have HB1 := Lib.hid (stepB hbel.out hb)
            have HW1 := Lib.hid (keepO hown.out hb)
            have hz1 := hb.size
            clear hb d0 d1 d2 d3
            have HK2 := Lib.hid (Blk.alloc (show Blk w1 w.heap.size 71 _ from HK1.out) (.cells (rdV A n c q2 F2) 71))
            have HR2 := Lib.hid (Blk.alloc (show Blk w1 (w.heap.size + 1) 71 _ from HR1.out) (.cells (rdV A n c q2 F2) 71))
            have HB2 := Lib.hid (HB1.out.alloc HB1.out.size (.cells (rdV A n c q2 F2) 71))
            have HW2 := Lib.hid (HW1.out.alloc (.cells (rdV A n c q2 F2) 71))
            have hl1 := (show Blk w1 w.heap.size 71 _ from HK1.out).lt
            go_wp2_with (first
              | (refine wpList_put_row rfl 71 (.tmp 2) (.tmp 24) rfl w.heap.size (rdV A n c q2 F2) rfl rfl 71 _ HK2.out H.out rfl (by simp [Value.oneCell']) ?_; intro w3 hblk hgr; have d0 := hblk.cell 0; have d1 := hblk.cell 1; have d2 := hblk.cell 2; have d3 := hblk.cell 3; have HK3 := Lib.hid hblk; have HR3 := Lib.hid ((show Blk (w1.alloc (.cells (rdV A n c q2 F2) 71)) (w.heap.size + 1) 71 _ from HR2.out).grown hgr (by simp)); have HB3 := Lib.hid (HB2.out.grown hgr HB2.out.size (fun j hj => by injection hj with hj; omega)); have HW3 := Lib.hid (ownsRow_same HW2.out (fun j hj => hgr.block j (HW2.out.lt j hj).2 (fun e => by injection e with e; subst e; have := (HW2.out.lt _ hj).1; omega))); obtain ⟨bo, hAo, hbo, _, _, hco, _⟩ := own_block HW3.out hkp; have hcell := hco (k - 1) (uv a) (by rw [List.getElem?_map, HA.out]; rfl); unfold uv at hcell; clear hco; subst hAo; clear hblk hgr)
              | (at_builtin; refine wpList_app rfl (.tmp 54) (.tmp 56) _ rfl elem64 rfl (HW3.out.alloc _) rfl (Src.new w3 (.int .u64 ((a : Int) + (x : Int) + 1)) _ rfl) (by unfold maxLen; omega) (by omega) (by have := (show Blk w3 (w.heap.size + 1) _ _ from HR3.out).lt; simp; omega) ?_; intro A5 c5 w5 ho5 hg5 hat5; have HO5 := Lib.hid ho5; have HG5 := Lib.hid (show w3.grownBy w5 _ from ⟨hg5.os, hg5.tape, hg5.output, by have := hg5.size; simp at this; omega, fun j hj hn => (hg5.block j (by simp; omega) hn).trans (Below.heap_alloc _ _ _ hj)⟩); clear ho5 hg5 hat5))
            have hKn : some w.heap.size ≠ (Value.slice (some ⟨bo, 0, none⟩) k ca).ownBlock := fun e => by have := (HW3.out.lt _ e.symm).1; omega
            have hRn : some (w.heap.size + 1) ≠ (Value.slice (some ⟨bo, 0, none⟩) k ca).ownBlock := fun e => by have := (HW3.out.lt _ e.symm).1; omega
            go_roundw
            case rel =>
              refine ⟨k + 1, q2, F2, acc ++ [a + x + 1], A5, c5, by omega, by go_num, rfl, by rw [List.length_append, HA71.out]; rfl, HQ2.out, HOK2.out, ?_, ?_, ?_, ?_, ?_, HGD.out.symm⟩
              · intro z hz
                rcases List.mem_append.1 hz with hz | hz
                · exact hlt64.out z hz
                · simp only [List.mem_singleton] at hz
                  subst hz
                  exact HY64.out
              · have := HO5.out
                rw [HYY.out] at this
                rw [List.map_append]
                exact this
              · exact (show Blk w3 w.heap.size 71 _ from HK3.out).grown HG5.out hKn
              · exact (show Blk w3 (w.heap.size + 1) 71 _ from HR3.out).grown HG5.out hRn
              · exact HB3.out.grown HG5.out HB3.out.size (fun j hj => by have := (HW3.out.lt j hj).1; omega)
            case measure => simp [intOf]; omega
          case pos =>
            have HOV : Hid (R = ([], q2, failF F2 13 q)) := HOVER.out (by rw [HNX.out]; exact hov)
            obtain ⟨FF, hFF⟩ : ∃ FF, FF = failF F2 13 (q : Int) := ⟨_, rfl⟩
            rw [← hFF] at HOV
            have HFL : Hid (∀ w, Calls Try.prog 95 #[.agg (rdV A n c q2 F2), .int .i64 13, .int .i64 (q : Int)] w fun e w' => e = .returned (.agg (rdV A n c q2 FF)) ∧ Below w.heap.size w w') := fun w => by rw [hFF]; exact rfail_any A n c q2 F2 13 q w
            clear hFF
            by_cases hgt : 18446744073709551615 < a + x
            case pos =>
              have t1 : decide ((18446744073709551615 : Int) - (a : Int) < (x : Int)) = true := by simp; omega
              clear hov hgt
              go_wp2_with fail
              refine HV.out.mono ?_; rintro e w1 ⟨rfl, hb⟩
              have HK1 := Lib.hid (keepB (show Blk wr w.heap.size 71 _ from hkk.out) hb)
              have HR1 := Lib.hid (keepB (show Blk wr (w.heap.size + 1) 71 _ from hrr.out) hb)
              have HB1 := Lib.hid (stepB hbel.out hb)
              have HW1 := Lib.hid (keepO hown.out hb)
              have hz1 := hb.size
              clear hb d0 d1 d2 d3
              have HK2 := Lib.hid (Blk.alloc (show Blk w1 w.heap.size 71 _ from HK1.out) (.cells (rdV A n c q2 F2) 71))
              have HR2 := Lib.hid (Blk.alloc (show Blk w1 (w.heap.size + 1) 71 _ from HR1.out) (.cells (rdV A n c q2 F2) 71))
              have HB2 := Lib.hid (HB1.out.alloc HB1.out.size (.cells (rdV A n c q2 F2) 71))
              have HW2 := Lib.hid (HW1.out.alloc (.cells (rdV A n c q2 F2) 71))
              have hl1 := (show Blk w1 w.heap.size 71 _ from HK1.out).lt
              go_wp2_with (first
                | (refine wpList_put_row rfl 71 (.tmp 2) (.tmp 24) rfl w.heap.size (rdV A n c q2 F2) rfl rfl 71 _ HK2.out H.out rfl (by simp [Value.oneCell']) ?_; intro w3 hblk hgr; have d0 := hblk.cell 0; have d1 := hblk.cell 1; have d2 := hblk.cell 2; have d3 := hblk.cell 3; have HK3 := Lib.hid hblk; have HR3 := Lib.hid ((show Blk (w1.alloc (.cells (rdV A n c q2 F2) 71)) (w.heap.size + 1) 71 _ from HR2.out).grown hgr (by simp)); have HB3 := Lib.hid (HB2.out.grown hgr HB2.out.size (fun j hj => by injection hj with hj; omega)); have HW3 := Lib.hid (ownsRow_same HW2.out (fun j hj => hgr.block j (HW2.out.lt j hj).2 (fun e => by injection e with e; subst e; have := (HW2.out.lt _ hj).1; omega))); obtain ⟨bo, hAo, hbo, _, _, hco, _⟩ := own_block HW3.out hkp; have hcell := hco (k - 1) (uv a) (by rw [List.getElem?_map, HA.out]; rfl); unfold uv at hcell; clear hco; subst hAo; clear hblk hgr))
              refine (HFL.out _).mono ?_; rintro e w4 ⟨rfl, hb⟩
              have HR4 := Lib.hid (keepB (show Blk w3 (w.heap.size + 1) 71 _ from HR3.out) hb)
              have HB4 := Lib.hid (stepB HB3.out hb)
              clear hb hcell d0 d1 d2 d3
              go_wp2_with (first
                | (refine wpList_put_row rfl 71 (.tmp 4) (.tmp 49) rfl (w.heap.size + 1) (rdV A n c q2 FF) rfl rfl 71 _ HR4.out H.out rfl (by simp [Value.oneCell']) ?_; intro w9 hblk9 hgr9))
              have e0 := hblk9.cell 0
              have e1 := hblk9.cell 1
              have e2 := hblk9.cell 2
              have e3 := hblk9.cell 3
              have hRR := HOV.out
              subst hRR
              exact bodyPost_ret (v := .tuple #[.agg (rdV A n c q2 FF), .slice none 0 0]) (by simp [results, Try.results98, go_sem, e0, e1, e2, e3]) rfl ⟨none, 0, rfl, World.ownsRow_nil _ _ _ _, HB4.out.grown hgr9 (HB4.out).size (fun j hj => by injection hj with hj; omega)⟩
            case neg =>
              have t1 : decide ((18446744073709551615 : Int) - (a : Int) < (x : Int)) = false := by simp; omega
              have t2 : ((x : Int) == (18446744073709551615 : Int) - (a : Int)) = true := by simp; omega
              clear hov hgt
              go_wp2_with fail
              refine HV.out.mono ?_; rintro e w1 ⟨rfl, hb⟩
              have HK1 := Lib.hid (keepB (show Blk wr w.heap.size 71 _ from hkk.out) hb)
              have HR1 := Lib.hid (keepB (show Blk wr (w.heap.size + 1) 71 _ from hrr.out) hb)
              have HB1 := Lib.hid (stepB hbel.out hb)
              have HW1 := Lib.hid (keepO hown.out hb)
              have hz1 := hb.size
              clear hb d0 d1 d2 d3
              have HK2 := Lib.hid (Blk.alloc (show Blk w1 w.heap.size 71 _ from HK1.out) (.cells (rdV A n c q2 F2) 71))
              have HR2 := Lib.hid (Blk.alloc (show Blk w1 (w.heap.size + 1) 71 _ from HR1.out) (.cells (rdV A n c q2 F2) 71))
              have HB2 := Lib.hid (HB1.out.alloc HB1.out.size (.cells (rdV A n c q2 F2) 71))
              have HW2 := Lib.hid (HW1.out.alloc (.cells (rdV A n c q2 F2) 71))
              have hl1 := (show Blk w1 w.heap.size 71 _ from HK1.out).lt
              go_wp2_with (first
                | (refine wpList_put_row rfl 71 (.tmp 2) (.tmp 24) rfl w.heap.size (rdV A n c q2 F2) rfl rfl 71 _ HK2.out H.out rfl (by simp [Value.oneCell']) ?_; intro w3 hblk hgr; have d0 := hblk.cell 0; have d1 := hblk.cell 1; have d2 := hblk.cell 2; have d3 := hblk.cell 3; have HK3 := Lib.hid hblk; have HR3 := Lib.hid ((show Blk (w1.alloc (.cells (rdV A n c q2 F2) 71)) (w.heap.size + 1) 71 _ from HR2.out).grown hgr (by simp)); have HB3 := Lib.hid (HB2.out.grown hgr HB2.out.size (fun j hj => by injection hj with hj; omega)); have HW3 := Lib.hid (ownsRow_same HW2.out (fun j hj => hgr.block j (HW2.out.lt j hj).2 (fun e => by injection e with e; subst e; have := (HW2.out.lt _ hj).1; omega))); obtain ⟨bo, hAo, hbo, _, _, hco, _⟩ := own_block HW3.out hkp; have hcell := hco (k - 1) (uv a) (by rw [List.getElem?_map, HA.out]; rfl); unfold uv at hcell; clear hco; subst hAo; clear hblk hgr))
              refine (HFL.out _).mono ?_; rintro e w4 ⟨rfl, hb⟩
              have HR4 := Lib.hid (keepB (show Blk w3 (w.heap.size + 1) 71 _ from HR3.out) hb)
              have HB4 := Lib.hid (stepB HB3.out hb)
              clear hb hcell d0 d1 d2 d3
              go_wp2_with (first
                | (refine wpList_put_row rfl 71 (.tmp 4) (.tmp 49) rfl (w.heap.size + 1) (rdV A n c q2 FF) rfl rfl 71 _ HR4.out H.out rfl (by simp [Value.oneCell']) ?_; intro w9 hblk9 hgr9))
              have e0 := hblk9.cell 0
              have e1 := hblk9.cell 1
              have e2 := hblk9.cell 2
              have e3 := hblk9.cell 3
              have hRR := HOV.out
              subst hRR
              exact bodyPost_ret (v := .tuple #[.agg (rdV A n c q2 FF), .slice none 0 0]) (by simp [results, Try.results98, go_sem, e0, e1, e2, e3]) rfl ⟨none, 0, rfl, World.ownsRow_nil _ _ _ _, HB4.out.grown hgr9 (HB4.out).size (fun j hj => by injection hj with hj; omega)⟩
end
end Go.Proofs.Ytmdgmnaaopineaa
