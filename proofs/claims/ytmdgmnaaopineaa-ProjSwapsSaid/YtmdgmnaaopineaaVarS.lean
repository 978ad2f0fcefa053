/- The reference's numbers with a bound, and those that must be right. -/
import Derived.Test.YtmdgmnaaopineaaVarQ
import Derived.Test.YtmdgmnaaopineaaCodN
import Derived.Test.YtmdgmnaaopineaaVarP
namespace Go.Proofs.Ytmdgmnaaopineaa
open Go.ChangeShapes Go.WideShapes Go.ChangeAt Go.RowKit
set_option linter.unusedVariables false
def isPos (x : Nat) : Bool := decide (x < 4611686018427387904)
theorem rr17_any (x : Nat) (w : World) : Calls Try.prog 87 #[.int .u64 (x : Int)] w fun e w' => e = .returned (.bool (isEpoch x)) ∧ w = w' := by
  unfold isEpoch
  obtain ⟨b, hb⟩ : ∃ b, b = decide (x < 4611686018427387904) := ⟨_, rfl⟩
  obtain ⟨c, hc⟩ : ∃ c, c = decide (1 ≤ x) := ⟨_, rfl⟩
  rw [← hb, ← hc]
  have hd : decide (0 < x) = c := by rw [hc]; apply decide_eq_decide.2; omega
  have hd2 : decide ((x : Int) ≤ 4611686018427387903) = b := by rw [hb]; apply decide_eq_decide.2; omega
  clear hb hc
  cases c
  all_goals
    go_enter Try.func87, Try.ntmps87
    go_wp2_with fail
    go_ret
    exact ⟨rfl, rfl⟩
theorem rp17_any (x : Nat) (w : World) : Calls Try.prog 33 #[.int .u64 (x : Int)] w fun e w' => e = .returned (.bool (isPos x)) ∧ w = w' := by
  unfold isPos
  obtain ⟨b, hb⟩ : ∃ b, b = decide (x < 4611686018427387904) := ⟨_, rfl⟩
  rw [← hb]
  have hd2 : decide ((x : Int) ≤ 4611686018427387903) = b := by rw [hb]; apply decide_eq_decide.2; omega
  clear hb
  go_enter Try.func33, Try.ntmps33
  go_wp2_with fail
  go_ret
  exact ⟨rfl, rfl⟩
section
variable {D : Dom} {A : Option Addr} {n c : Nat} {l : List UInt8} {p : Nat} {f : Flt} {w : World}
set_option maxRecDepth 100000 in
set_option maxHeartbeats 1000000 in
theorem rmost_any (h : rpU8.sl w D A n c l) (hD : ∀ k, D k → k < w.heap.size) (hf : OkF f) (hp : p ≤ n) (hn : n ≤ 1000000000) (m : Nat) :
    Calls Try.prog 138 #[.agg (rdV A n c p f), .int .u64 (m : Int)] w fun e w' => e = .returned (rnV A n c (mostF l p f m)) ∧ Below w.heap.size w w' := by
  have H : Hid ((Try.prog.info? 71).map (·.size) = some 4) := by unfold Hid; kernel_rfl
  have HRD : Hid (∀ w', Below w.heap.size w w' → Calls Try.prog 96 #[.agg (rdV A n c p f)] w' fun e w'' => e = .returned (rnV A n c (vrdF l p f)) ∧ Below w'.heap.size w' w'') := fun w' hb => rread_any (Rp.sl_below h hb hD) (fun k hk => Nat.lt_of_lt_of_le (hD k hk) hb.size) hf hp hn
  have hf0 := @vrdF_fail0 l p f
  unfold mostF
  generalize vrdF l p f = r at *
  obtain ⟨x, q, F1, F2⟩ := r
  simp only at hf0 ⊢
  have HZ := Lib.hid (cbelow_two w (.cells (rdV A n c p f) 71) (.cells rdZ 71))
  have HK := Lib.hid ((Blk.new w 71 (rdV A n c p f)).alloc (.cells rdZ 71))
  have HR := Lib.hid (cblk_top w (rdV A n c p f) rdZ 71 71)
  clear h hD hf hp hn
  clear hf0
  by_cases hx : m < x
  · rw [if_pos hx]
    have hd : decide ((m : Int) < (x : Int)) = true := by simp; omega
    have hd' : decide (m < x) = true := by simpa using hx
    clear hx
    obtain ⟨G1, G2, hG⟩ : ∃ G1 G2, failF (F1, F2) 2 (p : Int) = (G1, G2) := ⟨_, _, rfl⟩
    have HFAIL : Hid (∀ w, Calls Try.prog 95 #[.agg (rdV A n c q (F1, F2)), .int .i64 2, .int .i64 (p : Int)] w fun e w' => e = .returned (.agg (rdV A n c q (G1, G2))) ∧ Below w.heap.size w w') := fun w => by have := rfail_any A n c q (F1, F2) 2 p w; rwa [hG] at this
    rw [hG]
    clear hG
    go_enter Try.func138, Try.ntmps138
    go_wp2_with fail
    generalize World.alloc (World.alloc _ _) _ = w0 at *
    have hz0 := HZ.out.size
    have hr0 := (show Blk _ _ _ _ from HR.out).lt
    have hk0 := (show Blk _ _ _ _ from HK.out).lt
    go_wp2_with fail
    refine (HRD.out _ HZ.out).mono ?_; rintro e w1 ⟨rfl, hb1⟩
    have HB1 := Lib.hid (HZ.out.trans (hb1.mono hz0))
    have hk1 : Blk w1 w.heap.size 71 (rdV A n c p f) := Blk.below HK.out hb1 hk0
    have d0 := hk1.cell 0
    have d1 := hk1.cell 1
    have d2 := hk1.cell 2
    have d3 := hk1.cell 3
    have HR1 : Hid (Blk w1 (w.heap.size + 1) 71 rdZ) := Blk.below HR.out hb1 hr0
    have hz1 := hb1.size
    have hl1 := hk1.lt
    clear hb1 hk1
    go_wp2_with fail
    refine (HFAIL.out _).mono ?_; rintro e w2 ⟨rfl, hb2⟩
    have HR2 : Hid (Blk w2 (w.heap.size + 1) 71 rdZ) := Blk.below (HR1.out.alloc _) hb2 (HR1.out.alloc _).lt
    have HB2 : Hid (Below w.heap.size w w2) := (HB1.out.alloc (by omega) _).trans (hb2.mono (by simp; omega))
    clear hb2 d0 d1 d2 d3
    go_wp2_with (refine wpList_put_row rfl 71 (.tmp 4) (.tmp 21) rfl (w.heap.size + 1) (rdV A n c q (G1, G2)) rfl rfl 71 _ HR2.out H.out rfl (by simp [Value.oneCell']) ?_; intro w3 hblk hgr)
    have hbz : Below w.heap.size w w3 := HB2.out.grown hgr (HB2.out).size (fun k hk => by injection hk with hk; omega)
    have e0 := hblk.cell 0
    have e1 := hblk.cell 1
    have e2 := hblk.cell 2
    have e3 := hblk.cell 3
    refine bodyPost_ret (v := rnV A n c (0, q, (G1, G2))) (by simp [results, Try.results138, go_sem, e0, e1, e2, e3]) rfl ⟨rfl, hbz⟩
  · rw [if_neg hx]
    have hd : decide ((m : Int) < (x : Int)) = false := by simp; omega
    have hd' : decide (m < x) = false := by simpa using hx
    clear hx
    go_enter Try.func138, Try.ntmps138
    go_wp2_with fail
    generalize World.alloc (World.alloc _ _) _ = w0 at *
    have hz0 := HZ.out.size
    have hr0 := (show Blk _ _ _ _ from HR.out).lt
    have hk0 := (show Blk _ _ _ _ from HK.out).lt
    go_wp2_with fail
    refine (HRD.out _ HZ.out).mono ?_; rintro e w1 ⟨rfl, hb1⟩
    have HB1 := Lib.hid (HZ.out.trans (hb1.mono hz0))
    have hk1 : Blk w1 w.heap.size 71 (rdV A n c p f) := Blk.below HK.out hb1 hk0
    have d0 := hk1.cell 0
    have d1 := hk1.cell 1
    have d2 := hk1.cell 2
    have d3 := hk1.cell 3
    have HR1 : Hid (Blk w1 (w.heap.size + 1) 71 rdZ) := Blk.below HR.out hb1 hr0
    have hz1 := hb1.size
    have hl1 := hk1.lt
    clear hb1 hk1
    clear d0 d1 d2 d3
    go_wp2_with (refine wpList_put_row rfl 71 (.tmp 4) (.tmp 22) rfl (w.heap.size + 1) (rdV A n c q (F1, F2)) rfl rfl 71 _ (HR1.out.alloc _) H.out rfl (by simp [Value.oneCell']) ?_; intro w3 hblk hgr)
    have hbz : Below w.heap.size w w3 := (HB1.out.alloc (by omega) _).grown hgr ((HB1.out.alloc (by omega) _)).size (fun k hk => by injection hk with hk; omega)
    have e0 := hblk.cell 0
    have e1 := hblk.cell 1
    have e2 := hblk.cell 2
    have e3 := hblk.cell 3
    refine bodyPost_ret (v := rnV A n c (x, q, (F1, F2))) (by simp [results, Try.results138, go_sem, e0, e1, e2, e3]) rfl ⟨rfl, hbz⟩
set_option maxRecDepth 100000 in
set_option maxHeartbeats 1000000 in
theorem repoch_any (h : rpU8.sl w D A n c l) (hD : ∀ k, D k → k < w.heap.size) (hf : OkF f) (hp : p ≤ n) (hn : n ≤ 1000000000) :
    Calls Try.prog 112 #[.agg (rdV A n c p f), .int .i64 1] w fun e w' => e = .returned (rnV A n c (mustF isEpoch l p f)) ∧ Below w.heap.size w w' := by
  have H : Hid ((Try.prog.info? 71).map (·.size) = some 4) := by unfold Hid; kernel_rfl
  have HRD : Hid (∀ w', Below w.heap.size w w' → Calls Try.prog 96 #[.agg (rdV A n c p f)] w' fun e w'' => e = .returned (rnV A n c (vrdF l p f)) ∧ Below w'.heap.size w' w'') := fun w' hb => rread_any (Rp.sl_below h hb hD) (fun k hk => Nat.lt_of_lt_of_le (hD k hk) hb.size) hf hp hn
  have hf0 := @vrdF_fail0 l p f
  unfold mustF
  generalize vrdF l p f = r at *
  obtain ⟨x, q, F1, F2⟩ := r
  simp only at hf0 ⊢
  have HZ := Lib.hid (cbelow_two w (.cells (rdV A n c p f) 71) (.cells rdZ 71))
  have HK := Lib.hid ((Blk.new w 71 (rdV A n c p f)).alloc (.cells rdZ 71))
  have HR := Lib.hid (cblk_top w (rdV A n c p f) rdZ 71 71)
  clear h hD hf hp hn
  by_cases h0 : F1 = 0
  case neg =>
    rw [if_neg h0]
    obtain rfl : x = 0 := hf0 h0
    have hd : (F1 != 0) = true := by simpa using h0
    have hd' : (F1 == 0) = false := by simpa using h0
    clear h0 hf0
    go_enter Try.func112, Try.ntmps112
    go_wp2_with fail
    generalize World.alloc (World.alloc _ _) _ = w0 at *
    have hz0 := HZ.out.size
    have hr0 := (show Blk _ _ _ _ from HR.out).lt
    have hk0 := (show Blk _ _ _ _ from HK.out).lt
    go_wp2_with fail
    refine (HRD.out _ HZ.out).mono ?_; rintro e w1 ⟨rfl, hb1⟩
    have HB1 := Lib.hid (HZ.out.trans (hb1.mono hz0))
    have hk1 : Blk w1 w.heap.size 71 (rdV A n c p f) := Blk.below HK.out hb1 hk0
    have d0 := hk1.cell 0
    have d1 := hk1.cell 1
    have d2 := hk1.cell 2
    have d3 := hk1.cell 3
    have HR1 : Hid (Blk w1 (w.heap.size + 1) 71 rdZ) := Blk.below HR.out hb1 hr0
    have hz1 := hb1.size
    have hl1 := hk1.lt
    clear hb1 hk1
    clear d0 d1 d2 d3
    go_wp2_with (refine wpList_put_row rfl 71 (.tmp 4) (.tmp 17) rfl (w.heap.size + 1) (rdV A n c q (F1, F2)) rfl rfl 71 _ (HR1.out.alloc _) H.out rfl (by simp [Value.oneCell']) ?_; intro w3 hblk hgr)
    have hbz : Below w.heap.size w w3 := (HB1.out.alloc (by omega) _).grown hgr ((HB1.out.alloc (by omega) _)).size (fun k hk => by injection hk with hk; omega)
    have e0 := hblk.cell 0
    have e1 := hblk.cell 1
    have e2 := hblk.cell 2
    have e3 := hblk.cell 3
    refine bodyPost_ret (v := rnV A n c (0, q, (F1, F2))) (by simp [results, Try.results112, go_sem, e0, e1, e2, e3]) rfl ⟨rfl, hbz⟩
  case pos =>
    rw [if_pos h0]
    have hd0 : (F1 != 0) = false := by simpa using h0
    have hd0' : (F1 == 0) = true := by simpa using h0
    clear h0 hf0
    cases hR : isEpoch x
    case false =>
      simp only [Bool.false_eq_true, if_false]
      obtain ⟨G1, G2, hG⟩ : ∃ G1 G2, failF (F1, F2) 3 (p : Int) = (G1, G2) := ⟨_, _, rfl⟩
      have HFAIL : Hid (∀ w, Calls Try.prog 95 #[.agg (rdV A n c q (F1, F2)), .int .i64 3, .int .i64 (p : Int)] w fun e w' => e = .returned (.agg (rdV A n c q (G1, G2))) ∧ Below w.heap.size w w') := fun w => by have := rfail_any A n c q (F1, F2) 3 p w; rwa [hG] at this
      rw [hG]
      clear hG
      have HRR := Lib.hid hR
      go_enter Try.func112, Try.ntmps112
      go_wp2_with fail
      generalize World.alloc (World.alloc _ _) _ = w0 at *
      have hz0 := HZ.out.size
      have hr0 := (show Blk _ _ _ _ from HR.out).lt
      have hk0 := (show Blk _ _ _ _ from HK.out).lt
      go_wp2_with fail
      refine (HRD.out _ HZ.out).mono ?_; rintro e w1 ⟨rfl, hb1⟩
      have HB1 := Lib.hid (HZ.out.trans (hb1.mono hz0))
      have hk1 : Blk w1 w.heap.size 71 (rdV A n c p f) := Blk.below HK.out hb1 hk0
      have d0 := hk1.cell 0
      have d1 := hk1.cell 1
      have d2 := hk1.cell 2
      have d3 := hk1.cell 3
      have HR1 : Hid (Blk w1 (w.heap.size + 1) 71 rdZ) := Blk.below HR.out hb1 hr0
      have hz1 := hb1.size
      have hl1 := hk1.lt
      clear hb1 hk1
      go_wp2_with fail
      refine (rr17_any x _).mono ?_; rintro e w5 ⟨rfl, rfl⟩
      rw [hR]
      go_wp2_with fail
      refine (HFAIL.out _).mono ?_; rintro e w2 ⟨rfl, hb2⟩
      have HR2 : Hid (Blk w2 (w.heap.size + 1) 71 rdZ) := Blk.below (HR1.out.alloc _) hb2 (HR1.out.alloc _).lt
      have HB2 : Hid (Below w.heap.size w w2) := (HB1.out.alloc (by omega) _).trans (hb2.mono (by simp; omega))
      clear hb2 d0 d1 d2 d3
      go_wp2_with (refine wpList_put_row rfl 71 (.tmp 4) (.tmp 45) rfl (w.heap.size + 1) (rdV A n c q (G1, G2)) rfl rfl 71 _ HR2.out H.out rfl (by simp [Value.oneCell']) ?_; intro w3 hblk hgr)
      have hbz : Below w.heap.size w w3 := HB2.out.grown hgr (HB2.out).size (fun k hk => by injection hk with hk; omega)
      have e0 := hblk.cell 0
      have e1 := hblk.cell 1
      have e2 := hblk.cell 2
      have e3 := hblk.cell 3
      refine bodyPost_ret (v := rnV A n c (0, q, (G1, G2))) (by simp [results, Try.results112, go_sem, e0, e1, e2, e3]) rfl ⟨rfl, hbz⟩
    case true =>
      simp only [if_true]
      have HRR := Lib.hid hR
      go_enter Try.func112, Try.ntmps112
      go_wp2_with fail
      generalize World.alloc (World.alloc _ _) _ = w0 at *
      have hz0 := HZ.out.size
      have hr0 := (show Blk _ _ _ _ from HR.out).lt
      have hk0 := (show Blk _ _ _ _ from HK.out).lt
      go_wp2_with fail
      refine (HRD.out _ HZ.out).mono ?_; rintro e w1 ⟨rfl, hb1⟩
      have HB1 := Lib.hid (HZ.out.trans (hb1.mono hz0))
      have hk1 : Blk w1 w.heap.size 71 (rdV A n c p f) := Blk.below HK.out hb1 hk0
      have d0 := hk1.cell 0
      have d1 := hk1.cell 1
      have d2 := hk1.cell 2
      have d3 := hk1.cell 3
      have HR1 : Hid (Blk w1 (w.heap.size + 1) 71 rdZ) := Blk.below HR.out hb1 hr0
      have hz1 := hb1.size
      have hl1 := hk1.lt
      clear hb1 hk1
      go_wp2_with fail
      refine (rr17_any x _).mono ?_; rintro e w5 ⟨rfl, rfl⟩
      rw [hR]
      clear d0 d1 d2 d3
      go_wp2_with (refine wpList_put_row rfl 71 (.tmp 4) (.tmp 46) rfl (w.heap.size + 1) (rdV A n c q (F1, F2)) rfl rfl 71 _ (HR1.out.alloc _) H.out rfl (by simp [Value.oneCell']) ?_; intro w3 hblk hgr)
      have hbz : Below w.heap.size w w3 := (HB1.out.alloc (by omega) _).grown hgr ((HB1.out.alloc (by omega) _)).size (fun k hk => by injection hk with hk; omega)
      have e0 := hblk.cell 0
      have e1 := hblk.cell 1
      have e2 := hblk.cell 2
      have e3 := hblk.cell 3
      refine bodyPost_ret (v := rnV A n c (x, q, (F1, F2))) (by simp [results, Try.results112, go_sem, e0, e1, e2, e3]) rfl ⟨rfl, hbz⟩
set_option maxRecDepth 100000 in
set_option maxHeartbeats 1000000 in
theorem rpos_any (h : rpU8.sl w D A n c l) (hD : ∀ k, D k → k < w.heap.size) (hf : OkF f) (hp : p ≤ n) (hn : n ≤ 1000000000) :
    Calls Try.prog 112 #[.agg (rdV A n c p f), .int .i64 2] w fun e w' => e = .returned (rnV A n c (mustF isPos l p f)) ∧ Below w.heap.size w w' := by
  have H : Hid ((Try.prog.info? 71).map (·.size) = some 4) := by unfold Hid; kernel_rfl
  have HRD : Hid (∀ w', Below w.heap.size w w' → Calls Try.prog 96 #[.agg (rdV A n c p f)] w' fun e w'' => e = .returned (rnV A n c (vrdF l p f)) ∧ Below w'.heap.size w' w'') := fun w' hb => rread_any (Rp.sl_below h hb hD) (fun k hk => Nat.lt_of_lt_of_le (hD k hk) hb.size) hf hp hn
  have hf0 := @vrdF_fail0 l p f
  unfold mustF
  generalize vrdF l p f = r at *
  obtain ⟨x, q, F1, F2⟩ := r
  simp only at hf0 ⊢
  have HZ := Lib.hid (cbelow_two w (.cells (rdV A n c p f) 71) (.cells rdZ 71))
  have HK := Lib.hid ((Blk.new w 71 (rdV A n c p f)).alloc (.cells rdZ 71))
  have HR := Lib.hid (cblk_top w (rdV A n c p f) rdZ 71 71)
  clear h hD hf hp hn
  by_cases h0 : F1 = 0
  case neg =>
    rw [if_neg h0]
    obtain rfl : x = 0 := hf0 h0
    have hd : (F1 != 0) = true := by simpa using h0
    have hd' : (F1 == 0) = false := by simpa using h0
    clear h0 hf0
    go_enter Try.func112, Try.ntmps112
    go_wp2_with fail
    generalize World.alloc (World.alloc _ _) _ = w0 at *
    have hz0 := HZ.out.size
    have hr0 := (show Blk _ _ _ _ from HR.out).lt
    have hk0 := (show Blk _ _ _ _ from HK.out).lt
    go_wp2_with fail
    refine (HRD.out _ HZ.out).mono ?_; rintro e w1 ⟨rfl, hb1⟩
    have HB1 := Lib.hid (HZ.out.trans (hb1.mono hz0))
    have hk1 : Blk w1 w.heap.size 71 (rdV A n c p f) := Blk.below HK.out hb1 hk0
    have d0 := hk1.cell 0
    have d1 := hk1.cell 1
    have d2 := hk1.cell 2
    have d3 := hk1.cell 3
    have HR1 : Hid (Blk w1 (w.heap.size + 1) 71 rdZ) := Blk.below HR.out hb1 hr0
    have hz1 := hb1.size
    have hl1 := hk1.lt
    clear hb1 hk1
    clear d0 d1 d2 d3
    go_wp2_with (refine wpList_put_row rfl 71 (.tmp 4) (.tmp 17) rfl (w.heap.size + 1) (rdV A n c q (F1, F2)) rfl rfl 71 _ (HR1.out.alloc _) H.out rfl (by simp [Value.oneCell']) ?_; intro w3 hblk hgr)
    have hbz : Below w.heap.size w w3 := (HB1.out.alloc (by omega) _).grown hgr ((HB1.out.alloc (by omega) _)).size (fun k hk => by injection hk with hk; omega)
    have e0 := hblk.cell 0
    have e1 := hblk.cell 1
    have e2 := hblk.cell 2
    have e3 := hblk.cell 3
    refine bodyPost_ret (v := rnV A n c (0, q, (F1, F2))) (by simp [results, Try.results112, go_sem, e0, e1, e2, e3]) rfl ⟨rfl, hbz⟩
  case pos =>
    rw [if_pos h0]
    have hd0 : (F1 != 0) = false := by simpa using h0
    have hd0' : (F1 == 0) = true := by simpa using h0
    clear h0 hf0
    cases hR : isPos x
    case false =>
      simp only [Bool.false_eq_true, if_false]
      obtain ⟨G1, G2, hG⟩ : ∃ G1 G2, failF (F1, F2) 3 (p : Int) = (G1, G2) := ⟨_, _, rfl⟩
      have HFAIL : Hid (∀ w, Calls Try.prog 95 #[.agg (rdV A n c q (F1, F2)), .int .i64 3, .int .i64 (p : Int)] w fun e w' => e = .returned (.agg (rdV A n c q (G1, G2))) ∧ Below w.heap.size w w') := fun w => by have := rfail_any A n c q (F1, F2) 3 p w; rwa [hG] at this
      rw [hG]
      clear hG
      have HRR := Lib.hid hR
      go_enter Try.func112, Try.ntmps112
      go_wp2_with fail
      generalize World.alloc (World.alloc _ _) _ = w0 at *
      have hz0 := HZ.out.size
      have hr0 := (show Blk _ _ _ _ from HR.out).lt
      have hk0 := (show Blk _ _ _ _ from HK.out).lt
      go_wp2_with fail
      refine (HRD.out _ HZ.out).mono ?_; rintro e w1 ⟨rfl, hb1⟩
      have HB1 := Lib.hid (HZ.out.trans (hb1.mono hz0))
      have hk1 : Blk w1 w.heap.size 71 (rdV A n c p f) := Blk.below HK.out hb1 hk0
      have d0 := hk1.cell 0
      have d1 := hk1.cell 1
      have d2 := hk1.cell 2
      have d3 := hk1.cell 3
      have HR1 : Hid (Blk w1 (w.heap.size + 1) 71 rdZ) := Blk.below HR.out hb1 hr0
      have hz1 := hb1.size
      have hl1 := hk1.lt
      clear hb1 hk1
      go_wp2_with fail
      refine (rp17_any x _).mono ?_; rintro e w5 ⟨rfl, rfl⟩
      rw [hR]
      go_wp2_with fail
      refine (HFAIL.out _).mono ?_; rintro e w2 ⟨rfl, hb2⟩
      have HR2 : Hid (Blk w2 (w.heap.size + 1) 71 rdZ) := Blk.below (HR1.out.alloc _) hb2 (HR1.out.alloc _).lt
      have HB2 : Hid (Below w.heap.size w w2) := (HB1.out.alloc (by omega) _).trans (hb2.mono (by simp; omega))
      clear hb2 d0 d1 d2 d3
      go_wp2_with (refine wpList_put_row rfl 71 (.tmp 4) (.tmp 45) rfl (w.heap.size + 1) (rdV A n c q (G1, G2)) rfl rfl 71 _ HR2.out H.out rfl (by simp [Value.oneCell']) ?_; intro w3 hblk hgr)
      have hbz : Below w.heap.size w w3 := HB2.out.grown hgr (HB2.out).size (fun k hk => by injection hk with hk; omega)
      have e0 := hblk.cell 0
      have e1 := hblk.cell 1
      have e2 := hblk.cell 2
      have e3 := hblk.cell 3
      refine bodyPost_ret (v := rnV A n c (0, q, (G1, G2))) (by simp [results, Try.results112, go_sem, e0, e1, e2, e3]) rfl ⟨rfl, hbz⟩
    case true =>
      simp only [if_true]
      have HRR := Lib.hid hR
      go_enter Try.func112, Try.ntmps112
      go_wp2_with fail
      generalize World.alloc (World.alloc _ _) _ = w0 at *
      have hz0 := HZ.out.size
      have hr0 := (show Blk _ _ _ _ from HR.out).lt
      have hk0 := (show Blk _ _ _ _ from HK.out).lt
      go_wp2_with fail
      refine (HRD.out _ HZ.out).mono ?_; rintro e w1 ⟨rfl, hb1⟩
      have HB1 := Lib.hid (HZ.out.trans (hb1.mono hz0))
      have hk1 : Blk w1 w.heap.size 71 (rdV A n c p f) := Blk.below HK.out hb1 hk0
      have d0 := hk1.cell 0
      have d1 := hk1.cell 1
      have d2 := hk1.cell 2
      have d3 := hk1.cell 3
      have HR1 : Hid (Blk w1 (w.heap.size + 1) 71 rdZ) := Blk.below HR.out hb1 hr0
      have hz1 := hb1.size
      have hl1 := hk1.lt
      clear hb1 hk1
      go_wp2_with fail
      refine (rp17_any x _).mono ?_; rintro e w5 ⟨rfl, rfl⟩
      rw [hR]
      clear d0 d1 d2 d3
      go_wp2_with (refine wpList_put_row rfl 71 (.tmp 4) (.tmp 46) rfl (w.heap.size + 1) (rdV A n c q (F1, F2)) rfl rfl 71 _ (HR1.out.alloc _) H.out rfl (by simp [Value.oneCell']) ?_; intro w3 hblk hgr)
      have hbz : Below w.heap.size w w3 := (HB1.out.alloc (by omega) _).grown hgr ((HB1.out.alloc (by omega) _)).size (fun k hk => by injection hk with hk; omega)
      have e0 := hblk.cell 0
      have e1 := hblk.cell 1
      have e2 := hblk.cell 2
      have e3 := hblk.cell 3
      refine bodyPost_ret (v := rnV A n c (x, q, (F1, F2))) (by simp [results, Try.results112, go_sem, e0, e1, e2, e3]) rfl ⟨rfl, hbz⟩
set_option maxRecDepth 100000 in
set_option maxHeartbeats 1000000 in
theorem rtail_any (h : rpU8.sl w D A n c l) (hD : ∀ k, D k → k < w.heap.size) (hf : OkF f) (hp : p ≤ n) (hn : n ≤ 1000000000) :
    Calls Try.prog 112 #[.agg (rdV A n c p f), .int .i64 3] w fun e w' => e = .returned (rnV A n c (mustF isTail l p f)) ∧ Below w.heap.size w w' := by
  have H : Hid ((Try.prog.info? 71).map (·.size) = some 4) := by unfold Hid; kernel_rfl
  have HRD : Hid (∀ w', Below w.heap.size w w' → Calls Try.prog 96 #[.agg (rdV A n c p f)] w' fun e w'' => e = .returned (rnV A n c (vrdF l p f)) ∧ Below w'.heap.size w' w'') := fun w' hb => rread_any (Rp.sl_below h hb hD) (fun k hk => Nat.lt_of_lt_of_le (hD k hk) hb.size) hf hp hn
  have hf0 := @vrdF_fail0 l p f
  unfold mustF
  generalize vrdF l p f = r at *
  obtain ⟨x, q, F1, F2⟩ := r
  simp only at hf0 ⊢
  have HZ := Lib.hid (cbelow_two w (.cells (rdV A n c p f) 71) (.cells rdZ 71))
  have HK := Lib.hid ((Blk.new w 71 (rdV A n c p f)).alloc (.cells rdZ 71))
  have HR := Lib.hid (cblk_top w (rdV A n c p f) rdZ 71 71)
  clear h hD hf hp hn
  by_cases h0 : F1 = 0
  case neg =>
    rw [if_neg h0]
    obtain rfl : x = 0 := hf0 h0
    have hd : (F1 != 0) = true := by simpa using h0
    have hd' : (F1 == 0) = false := by simpa using h0
    clear h0 hf0
    go_enter Try.func112, Try.ntmps112
    go_wp2_with fail
    generalize World.alloc (World.alloc _ _) _ = w0 at *
    have hz0 := HZ.out.size
    have hr0 := (show Blk _ _ _ _ from HR.out).lt
    have hk0 := (show Blk _ _ _ _ from HK.out).lt
    go_wp2_with fail
    refine (HRD.out _ HZ.out).mono ?_; rintro e w1 ⟨rfl, hb1⟩
    have HB1 := Lib.hid (HZ.out.trans (hb1.mono hz0))
    have hk1 : Blk w1 w.heap.size 71 (rdV A n c p f) := Blk.below HK.out hb1 hk0
    have d0 := hk1.cell 0
    have d1 := hk1.cell 1
    have d2 := hk1.cell 2
    have d3 := hk1.cell 3
    have HR1 : Hid (Blk w1 (w.heap.size + 1) 71 rdZ) := Blk.below HR.out hb1 hr0
    have hz1 := hb1.size
    have hl1 := hk1.lt
    clear hb1 hk1
    clear d0 d1 d2 d3
    go_wp2_with (refine wpList_put_row rfl 71 (.tmp 4) (.tmp 17) rfl (w.heap.size + 1) (rdV A n c q (F1, F2)) rfl rfl 71 _ (HR1.out.alloc _) H.out rfl (by simp [Value.oneCell']) ?_; intro w3 hblk hgr)
    have hbz : Below w.heap.size w w3 := (HB1.out.alloc (by omega) _).grown hgr ((HB1.out.alloc (by omega) _)).size (fun k hk => by injection hk with hk; omega)
    have e0 := hblk.cell 0
    have e1 := hblk.cell 1
    have e2 := hblk.cell 2
    have e3 := hblk.cell 3
    refine bodyPost_ret (v := rnV A n c (0, q, (F1, F2))) (by simp [results, Try.results112, go_sem, e0, e1, e2, e3]) rfl ⟨rfl, hbz⟩
  case pos =>
    rw [if_pos h0]
    have hd0 : (F1 != 0) = false := by simpa using h0
    have hd0' : (F1 == 0) = true := by simpa using h0
    clear h0 hf0
    cases hR : isTail x
    case false =>
      simp only [Bool.false_eq_true, if_false]
      obtain ⟨G1, G2, hG⟩ : ∃ G1 G2, failF (F1, F2) 3 (p : Int) = (G1, G2) := ⟨_, _, rfl⟩
      have HFAIL : Hid (∀ w, Calls Try.prog 95 #[.agg (rdV A n c q (F1, F2)), .int .i64 3, .int .i64 (p : Int)] w fun e w' => e = .returned (.agg (rdV A n c q (G1, G2))) ∧ Below w.heap.size w w') := fun w => by have := rfail_any A n c q (F1, F2) 3 p w; rwa [hG] at this
      rw [hG]
      clear hG
      have hd : decide ((4611686018427387904 : Int) < (x : Int)) = true := by unfold isTail at hR; simp at hR ⊢; omega
      clear hR
      go_enter Try.func112, Try.ntmps112
      go_wp2_with fail
      generalize World.alloc (World.alloc _ _) _ = w0 at *
      have hz0 := HZ.out.size
      have hr0 := (show Blk _ _ _ _ from HR.out).lt
      have hk0 := (show Blk _ _ _ _ from HK.out).lt
      go_wp2_with fail
      refine (HRD.out _ HZ.out).mono ?_; rintro e w1 ⟨rfl, hb1⟩
      have HB1 := Lib.hid (HZ.out.trans (hb1.mono hz0))
      have hk1 : Blk w1 w.heap.size 71 (rdV A n c p f) := Blk.below HK.out hb1 hk0
      have d0 := hk1.cell 0
      have d1 := hk1.cell 1
      have d2 := hk1.cell 2
      have d3 := hk1.cell 3
      have HR1 : Hid (Blk w1 (w.heap.size + 1) 71 rdZ) := Blk.below HR.out hb1 hr0
      have hz1 := hb1.size
      have hl1 := hk1.lt
      clear hb1 hk1
      go_wp2_with fail
      refine (HFAIL.out _).mono ?_; rintro e w2 ⟨rfl, hb2⟩
      have HR2 : Hid (Blk w2 (w.heap.size + 1) 71 rdZ) := Blk.below (HR1.out.alloc _) hb2 (HR1.out.alloc _).lt
      have HB2 : Hid (Below w.heap.size w w2) := (HB1.out.alloc (by omega) _).trans (hb2.mono (by simp; omega))
      clear hb2 d0 d1 d2 d3
      go_wp2_with (refine wpList_put_row rfl 71 (.tmp 4) (.tmp 45) rfl (w.heap.size + 1) (rdV A n c q (G1, G2)) rfl rfl 71 _ HR2.out H.out rfl (by simp [Value.oneCell']) ?_; intro w3 hblk hgr)
      have hbz : Below w.heap.size w w3 := HB2.out.grown hgr (HB2.out).size (fun k hk => by injection hk with hk; omega)
      have e0 := hblk.cell 0
      have e1 := hblk.cell 1
      have e2 := hblk.cell 2
      have e3 := hblk.cell 3
      refine bodyPost_ret (v := rnV A n c (0, q, (G1, G2))) (by simp [results, Try.results112, go_sem, e0, e1, e2, e3]) rfl ⟨rfl, hbz⟩
    case true =>
      simp only [if_true]
      have hd : decide ((4611686018427387904 : Int) < (x : Int)) = false := by unfold isTail at hR; simp at hR ⊢; omega
      clear hR
      go_enter Try.func112, Try.ntmps112
      go_wp2_with fail
      generalize World.alloc (World.alloc _ _) _ = w0 at *
      have hz0 := HZ.out.size
      have hr0 := (show Blk _ _ _ _ from HR.out).lt
      have hk0 := (show Blk _ _ _ _ from HK.out).lt
      go_wp2_with fail
      refine (HRD.out _ HZ.out).mono ?_; rintro e w1 ⟨rfl, hb1⟩
      have HB1 := Lib.hid (HZ.out.trans (hb1.mono hz0))
      have hk1 : Blk w1 w.heap.size 71 (rdV A n c p f) := Blk.below HK.out hb1 hk0
      have d0 := hk1.cell 0
      have d1 := hk1.cell 1
      have d2 := hk1.cell 2
      have d3 := hk1.cell 3
      have HR1 : Hid (Blk w1 (w.heap.size + 1) 71 rdZ) := Blk.below HR.out hb1 hr0
      have hz1 := hb1.size
      have hl1 := hk1.lt
      clear hb1 hk1
      clear d0 d1 d2 d3
      go_wp2_with (refine wpList_put_row rfl 71 (.tmp 4) (.tmp 46) rfl (w.heap.size + 1) (rdV A n c q (F1, F2)) rfl rfl 71 _ (HR1.out.alloc _) H.out rfl (by simp [Value.oneCell']) ?_; intro w3 hblk hgr)
      have hbz : Below w.heap.size w w3 := (HB1.out.alloc (by omega) _).grown hgr ((HB1.out.alloc (by omega) _)).size (fun k hk => by injection hk with hk; omega)
      have e0 := hblk.cell 0
      have e1 := hblk.cell 1
      have e2 := hblk.cell 2
      have e3 := hblk.cell 3
      refine bodyPost_ret (v := rnV A n c (x, q, (F1, F2))) (by simp [results, Try.results112, go_sem, e0, e1, e2, e3]) rfl ⟨rfl, hbz⟩
end
end Go.Proofs.Ytmdgmnaaopineaa
