/- The walk of SealReads. -/
import Derived.Test.YtkhomkklamegmaaSealL
namespace Go.Proofs.Ytkhomkklamegmaa
open Go.ChangeShapes Go.WideShapes Go.ChangeAt Go.RowKit
set_option linter.unusedVariables false
set_option maxRecDepth 100000 in
set_option maxHeartbeats 4000000 in
theorem sreads_bad {s : Sea} {q : Nat} {F : Flt} {D : Dom} {A : Option Addr} {n c : Nat} {l : List UInt8} {w : World} (h : rpU8.sl w D A n c l) (hD : ∀ k, D k → k < w.heap.size) (hn : n ≤ 300) (hF : F.1 ≠ 0) (hs : sealF l 0 (0, 0) = (((0 : Nat), (0 : Nat), (0 : Nat)), q, F)) :
    Calls Try.prog 4 #[.slice A n c] w fun e w' => e = .returned (.bool true) ∧ Below w.heap.size w w' := by
  obtain ⟨hlen, hnc, hcm⟩ := Rp.sl_len h
  unfold maxLen at hcm
  subst hlen
  have hl : l.length ≤ 1000000000 := by omega
  have hqle : q ≤ l.length := by have := sealF_place (l := l) (p := 0) (f := (0, 0)) (Nat.zero_le _); rw [hs] at this; exact this
  have e1 : endF l.length q F = F := by
    unfold endF
    split
    · unfold failF; rw [if_neg hF]
    · rfl
  have e2 : gotS ((0 : Nat), (0 : Nat), (0 : Nat)) F = ((0 : Nat), (0 : Nat), (0 : Nat)) := if_neg hF
  have e3 : gotN q F = 0 := if_neg hF
  have HGET : Hid (∀ w', Sl rpU8 w' D A l.length c l → Calls Try.prog 15 #[.slice A l.length c] w' fun e w'' => e = .returned (.tuple #[.agg (sV ((0 : Nat), (0 : Nat), (0 : Nat))), .int .i64 (0), .agg (fV F)]) ∧ Below w'.heap.size w' w'') := fun w' h => by
    have := sget_any h.1 h.2 hl
    rw [hs] at this
    simp only at this
    rw [e3] at this
    exact this
  have HDEC : Hid (∀ w', Sl rpU8 w' D A l.length c l → Calls Try.prog 16 #[.slice A l.length c] w' fun e w'' => e = .returned (.tuple #[.agg (sV ((0 : Nat), (0 : Nat), (0 : Nat))), .agg (fV F)]) ∧ Below w'.heap.size w' w'') := fun w' h => by
    have := sdecode_any h.1 h.2 hl
    rw [hs] at this
    simp only at this
    rw [e1, e2] at this
    exact this
  have HREF : Hid (∀ w', Sl rpU8 w' D A l.length c l → Calls Try.prog 18 #[.agg (rdV A l.length c ((0 : Nat) : Int) (0, 0))] w' fun e w'' => e = .returned (.tuple #[.agg (rdV A l.length c q F), .agg (sV ((0 : Nat), (0 : Nat), (0 : Nat)))]) ∧ Below w'.heap.size w' w'') := fun w' h => by
    have := rsread_any h.1 h.2 OkF.nil (Nat.zero_le _) hl
    rw [hs] at this
    exact this
  have HRD : Hid (∀ (w : World) (g : Nat), Rd w D g l 0 (0, 0) → Calls Try.prog 20 #[.pointer (some ⟨g, 0, none⟩)] w fun e w' => e = .returned (.agg (sV ((0 : Nat), (0 : Nat), (0 : Nat)))) ∧ Rd w' D g l q F ∧ Chg (one g) w w') := fun w g h => by
    have := sread_at h OkF.nil hl
    rw [hs] at this
    exact this
  have HEND : Hid (∀ w' : World, Calls Try.prog 22 #[.agg (rdV A l.length c q F)] w' fun e w'' => e = .returned (.agg (rdV A l.length c q F)) ∧ Below w'.heap.size w' w'') := fun w' => by
    have := rend_any A l.length c q F w' hqle hl
    rw [e1] at this
    exact this
  have HLV : Hid (∀ w : World, Calls Try.prog 7 #[] w fun e w' => e = .returned (.bool true) ∧ Below w.heap.size w w') := slive_any
  obtain ⟨f1, f2⟩ := F
  have hg1 : (f1 == 0) = false := by simpa using hF
  have hg2 : (f1 != 0) = true := by simpa using hF
  have hd300 : decide ((300 : Int) < (l.length : Int)) = false := by simp; omega
  have SL_0 : Hid (Sl rpU8 w D A l.length c l) := ⟨h, hD⟩
  have BB_0 : Hid (Below w.heap.size w w) := Below.refl _ _
  clear h hD hs hF e1 e2 e3
  go_enter Try.func4, Try.ntmps4
  go_wp2_with fail
  refine (HGET.out _ SL_0.out).mono ?_; rintro en w1 ⟨rfl, hb⟩
  have SL_1 : Hid (Sl rpU8 w1 D A l.length c l) := keepS SL_0.out hb
  have BB_1 : Hid (Below w.heap.size w w1) := stepB BB_0.out hb
  clear hb
  go_wp2_with fail
  have hb : Below w1.heap.size w1 ((w1.alloc (.cells (sV ((0 : Nat), (0 : Nat), (0 : Nat))) 24)).alloc (.cells (fV (f1, f2)) 37)) := below2 _ (.cells (sV ((0 : Nat), (0 : Nat), (0 : Nat))) 24) (.cells (fV (f1, f2)) 37)
  have SL_2 : Hid (Sl rpU8 ((w1.alloc (.cells (sV ((0 : Nat), (0 : Nat), (0 : Nat))) 24)).alloc (.cells (fV (f1, f2)) 37)) D A l.length c l) := keepS SL_1.out hb
  have BB_2 : Hid (Below w.heap.size w ((w1.alloc (.cells (sV ((0 : Nat), (0 : Nat), (0 : Nat))) 24)).alloc (.cells (fV (f1, f2)) 37))) := stepB BB_1.out hb
  have sz_1 := BB_1.out.size
  have b3_2 : Hid (Blk ((w1.alloc (.cells (sV ((0 : Nat), (0 : Nat), (0 : Nat))) 24)).alloc (.cells (fV (f1, f2)) 37)) w1.heap.size 24 (sV ((0 : Nat), (0 : Nat), (0 : Nat)))) := blk21 _ _ _ _ _
  have b5_2 : Hid (Blk ((w1.alloc (.cells (sV ((0 : Nat), (0 : Nat), (0 : Nat))) 24)).alloc (.cells (fV (f1, f2)) 37)) (w1.heap.size + 1) 37 (fV (f1, f2))) := blk22 _ _ _ _ _
  clear hb
  generalize hga : w1.heap.size = ga at *
  generalize World.alloc (World.alloc w1 _) _ = w2 at *
  refine (HDEC.out _ SL_2.out).mono ?_; rintro en w3 ⟨rfl, hb⟩
  have SL_3 : Hid (Sl rpU8 w3 D A l.length c l) := keepS SL_2.out hb
  have b3_3 : Hid (Blk w3 ga 24 (sV ((0 : Nat), (0 : Nat), (0 : Nat)))) := keepB b3_2.out hb
  have b5_3 : Hid (Blk w3 (ga + 1) 37 (fV (f1, f2))) := keepB b5_2.out hb
  have BB_3 : Hid (Below w.heap.size w w3) := stepB BB_2.out hb
  clear hb
  go_wp2_with fail
  have lt_b5_3 := (show Blk w3 (ga + 1) 37 (fV (f1, f2)) from b5_3.out).lt
  have hb : Below w3.heap.size w3 ((w3.alloc (.cells (sV ((0 : Nat), (0 : Nat), (0 : Nat))) 24)).alloc (.cells (fV (f1, f2)) 37)) := below2 _ (.cells (sV ((0 : Nat), (0 : Nat), (0 : Nat))) 24) (.cells (fV (f1, f2)) 37)
  have SL_4 : Hid (Sl rpU8 ((w3.alloc (.cells (sV ((0 : Nat), (0 : Nat), (0 : Nat))) 24)).alloc (.cells (fV (f1, f2)) 37)) D A l.length c l) := keepS SL_3.out hb
  have b3_4 : Hid (Blk ((w3.alloc (.cells (sV ((0 : Nat), (0 : Nat), (0 : Nat))) 24)).alloc (.cells (fV (f1, f2)) 37)) ga 24 (sV ((0 : Nat), (0 : Nat), (0 : Nat)))) := keepB b3_3.out hb
  have b5_4 : Hid (Blk ((w3.alloc (.cells (sV ((0 : Nat), (0 : Nat), (0 : Nat))) 24)).alloc (.cells (fV (f1, f2)) 37)) (ga + 1) 37 (fV (f1, f2))) := keepB b5_3.out hb
  have BB_4 : Hid (Below w.heap.size w ((w3.alloc (.cells (sV ((0 : Nat), (0 : Nat), (0 : Nat))) 24)).alloc (.cells (fV (f1, f2)) 37))) := stepB BB_3.out hb
  have sz_3 := BB_3.out.size
  have b6_4 : Hid (Blk ((w3.alloc (.cells (sV ((0 : Nat), (0 : Nat), (0 : Nat))) 24)).alloc (.cells (fV (f1, f2)) 37)) w3.heap.size 24 (sV ((0 : Nat), (0 : Nat), (0 : Nat)))) := blk21 _ _ _ _ _
  have b7_4 : Hid (Blk ((w3.alloc (.cells (sV ((0 : Nat), (0 : Nat), (0 : Nat))) 24)).alloc (.cells (fV (f1, f2)) 37)) (w3.heap.size + 1) 37 (fV (f1, f2))) := blk22 _ _ _ _ _
  clear hb
  generalize hgb : w3.heap.size = gb at *
  generalize World.alloc (World.alloc w3 _) _ = w4 at *
  refine (HREF.out _ SL_4.out).mono ?_; rintro en w5 ⟨rfl, hb⟩
  have SL_5 : Hid (Sl rpU8 w5 D A l.length c l) := keepS SL_4.out hb
  have b3_5 : Hid (Blk w5 ga 24 (sV ((0 : Nat), (0 : Nat), (0 : Nat)))) := keepB b3_4.out hb
  have b5_5 : Hid (Blk w5 (ga + 1) 37 (fV (f1, f2))) := keepB b5_4.out hb
  have b6_5 : Hid (Blk w5 gb 24 (sV ((0 : Nat), (0 : Nat), (0 : Nat)))) := keepB b6_4.out hb
  have b7_5 : Hid (Blk w5 (gb + 1) 37 (fV (f1, f2))) := keepB b7_4.out hb
  have BB_5 : Hid (Below w.heap.size w w5) := stepB BB_4.out hb
  clear hb
  go_wp2_with fail
  have lt_b7_5 := (show Blk w5 (gb + 1) 37 (fV (f1, f2)) from b7_5.out).lt
  have hb : Below w5.heap.size w5 ((w5.alloc (.cells (rdV A l.length c q (f1, f2)) 45)).alloc (.cells (sV ((0 : Nat), (0 : Nat), (0 : Nat))) 24)) := below2 _ (.cells (rdV A l.length c q (f1, f2)) 45) (.cells (sV ((0 : Nat), (0 : Nat), (0 : Nat))) 24)
  have SL_6 : Hid (Sl rpU8 ((w5.alloc (.cells (rdV A l.length c q (f1, f2)) 45)).alloc (.cells (sV ((0 : Nat), (0 : Nat), (0 : Nat))) 24)) D A l.length c l) := keepS SL_5.out hb
  have b3_6 : Hid (Blk ((w5.alloc (.cells (rdV A l.length c q (f1, f2)) 45)).alloc (.cells (sV ((0 : Nat), (0 : Nat), (0 : Nat))) 24)) ga 24 (sV ((0 : Nat), (0 : Nat), (0 : Nat)))) := keepB b3_5.out hb
  have b5_6 : Hid (Blk ((w5.alloc (.cells (rdV A l.length c q (f1, f2)) 45)).alloc (.cells (sV ((0 : Nat), (0 : Nat), (0 : Nat))) 24)) (ga + 1) 37 (fV (f1, f2))) := keepB b5_5.out hb
  have b6_6 : Hid (Blk ((w5.alloc (.cells (rdV A l.length c q (f1, f2)) 45)).alloc (.cells (sV ((0 : Nat), (0 : Nat), (0 : Nat))) 24)) gb 24 (sV ((0 : Nat), (0 : Nat), (0 : Nat)))) := keepB b6_5.out hb
  have b7_6 : Hid (Blk ((w5.alloc (.cells (rdV A l.length c q (f1, f2)) 45)).alloc (.cells (sV ((0 : Nat), (0 : Nat), (0 : Nat))) 24)) (gb + 1) 37 (fV (f1, f2))) := keepB b7_5.out hb
  have BB_6 : Hid (Below w.heap.size w ((w5.alloc (.cells (rdV A l.length c q (f1, f2)) 45)).alloc (.cells (sV ((0 : Nat), (0 : Nat), (0 : Nat))) 24))) := stepB BB_5.out hb
  have sz_5 := BB_5.out.size
  have b8_6 : Hid (Blk ((w5.alloc (.cells (rdV A l.length c q (f1, f2)) 45)).alloc (.cells (sV ((0 : Nat), (0 : Nat), (0 : Nat))) 24)) w5.heap.size 45 (rdV A l.length c q (f1, f2))) := blk21 _ _ _ _ _
  have b9_6 : Hid (Blk ((w5.alloc (.cells (rdV A l.length c q (f1, f2)) 45)).alloc (.cells (sV ((0 : Nat), (0 : Nat), (0 : Nat))) 24)) (w5.heap.size + 1) 24 (sV ((0 : Nat), (0 : Nat), (0 : Nat)))) := blk22 _ _ _ _ _
  clear hb
  generalize hgc : w5.heap.size = gc at *
  generalize World.alloc (World.alloc w5 _) _ = w6 at *
  refine (cnew_any (SL_6.out).1 (SL_6.out).2).mono ?_; rintro en w7 ⟨rfl, hr, hb⟩
  have ltg := (show Blk w6 (gc + 1) 24 (sV ((0 : Nat), (0 : Nat), (0 : Nat))) from b9_6.out).lt
  obtain ⟨gr, hgr⟩ : ∃ gr, gr = w6.heap.size := ⟨_, rfl⟩
  have szr := BB_6.out.size
  rw [← hgr] at hr ltg szr
  have SL_7 : Hid (Sl rpU8 w7 D A l.length c l) := keepS SL_6.out hb
  have b3_7 : Hid (Blk w7 ga 24 (sV ((0 : Nat), (0 : Nat), (0 : Nat)))) := keepB b3_6.out hb
  have b5_7 : Hid (Blk w7 (ga + 1) 37 (fV (f1, f2))) := keepB b5_6.out hb
  have b6_7 : Hid (Blk w7 gb 24 (sV ((0 : Nat), (0 : Nat), (0 : Nat)))) := keepB b6_6.out hb
  have b7_7 : Hid (Blk w7 (gb + 1) 37 (fV (f1, f2))) := keepB b7_6.out hb
  have b8_7 : Hid (Blk w7 gc 45 (rdV A l.length c q (f1, f2))) := keepB b8_6.out hb
  have b9_7 : Hid (Blk w7 (gc + 1) 24 (sV ((0 : Nat), (0 : Nat), (0 : Nat)))) := keepB b9_6.out hb
  have BB_7 : Hid (Below w.heap.size w w7) := stepB BB_6.out hb
  have RD_7 : Hid (Rd w7 D gr l 0 (0, 0)) := hr
  clear hb
  clear hr
  rw [← hgr]
  clear hgr
  go_wp2_with fail
  refine (HRD.out _ _ RD_7.out).mono ?_; rintro en w8 ⟨rfl, hr, hc⟩
  have SL_8 : Hid (Sl rpU8 w8 D A l.length c l) := chS SL_7.out hc (fun k hk e => by have e : k = gr := e; have := (SL_0.out).2 k hk; omega)
  have b3_8 : Hid (Blk w8 ga 24 (sV ((0 : Nat), (0 : Nat), (0 : Nat)))) := chB b3_7.out hc (fun e => by have e : _ = gr := e; omega)
  have b5_8 : Hid (Blk w8 (ga + 1) 37 (fV (f1, f2))) := chB b5_7.out hc (fun e => by have e : _ = gr := e; omega)
  have b6_8 : Hid (Blk w8 gb 24 (sV ((0 : Nat), (0 : Nat), (0 : Nat)))) := chB b6_7.out hc (fun e => by have e : _ = gr := e; omega)
  have b7_8 : Hid (Blk w8 (gb + 1) 37 (fV (f1, f2))) := chB b7_7.out hc (fun e => by have e : _ = gr := e; omega)
  have b8_8 : Hid (Blk w8 gc 45 (rdV A l.length c q (f1, f2))) := chB b8_7.out hc (fun e => by have e : _ = gr := e; omega)
  have b9_8 : Hid (Blk w8 (gc + 1) 24 (sV ((0 : Nat), (0 : Nat), (0 : Nat)))) := chB b9_7.out hc (fun e => by have e : _ = gr := e; omega)
  have BB_8 : Hid (Below w.heap.size w w8) := chBase BB_7.out hc (fun k hk => by have e : k = gr := hk; omega)
  have RD_8 : Hid (Rd w8 D gr l q (f1, f2)) := hr
  clear hr hc
  go_wp2_with fail
  have hb : Below w8.heap.size w8 (w8.alloc (.cells (sV ((0 : Nat), (0 : Nat), (0 : Nat))) 24)) := below1 _ (.cells (sV ((0 : Nat), (0 : Nat), (0 : Nat))) 24)
  have SL_9 : Hid (Sl rpU8 (w8.alloc (.cells (sV ((0 : Nat), (0 : Nat), (0 : Nat))) 24)) D A l.length c l) := keepS SL_8.out hb
  have b3_9 : Hid (Blk (w8.alloc (.cells (sV ((0 : Nat), (0 : Nat), (0 : Nat))) 24)) ga 24 (sV ((0 : Nat), (0 : Nat), (0 : Nat)))) := keepB b3_8.out hb
  have b5_9 : Hid (Blk (w8.alloc (.cells (sV ((0 : Nat), (0 : Nat), (0 : Nat))) 24)) (ga + 1) 37 (fV (f1, f2))) := keepB b5_8.out hb
  have b6_9 : Hid (Blk (w8.alloc (.cells (sV ((0 : Nat), (0 : Nat), (0 : Nat))) 24)) gb 24 (sV ((0 : Nat), (0 : Nat), (0 : Nat)))) := keepB b6_8.out hb
  have b7_9 : Hid (Blk (w8.alloc (.cells (sV ((0 : Nat), (0 : Nat), (0 : Nat))) 24)) (gb + 1) 37 (fV (f1, f2))) := keepB b7_8.out hb
  have b8_9 : Hid (Blk (w8.alloc (.cells (sV ((0 : Nat), (0 : Nat), (0 : Nat))) 24)) gc 45 (rdV A l.length c q (f1, f2))) := keepB b8_8.out hb
  have b9_9 : Hid (Blk (w8.alloc (.cells (sV ((0 : Nat), (0 : Nat), (0 : Nat))) 24)) (gc + 1) 24 (sV ((0 : Nat), (0 : Nat), (0 : Nat)))) := keepB b9_8.out hb
  have RD_9 : Hid (Rd (w8.alloc (.cells (sV ((0 : Nat), (0 : Nat), (0 : Nat))) 24)) D gr l q (f1, f2)) := keepR RD_8.out hb
  have BB_9 : Hid (Below w.heap.size w (w8.alloc (.cells (sV ((0 : Nat), (0 : Nat), (0 : Nat))) 24))) := stepB BB_8.out hb
  have sz_8 := BB_8.out.size
  have b11_9 : Hid (Blk (w8.alloc (.cells (sV ((0 : Nat), (0 : Nat), (0 : Nat))) 24)) w8.heap.size 24 (sV ((0 : Nat), (0 : Nat), (0 : Nat)))) := blk11 _ _ _
  clear hb
  generalize hgd : w8.heap.size = gd at *
  generalize World.alloc w8 _ = w9 at *
  have zq_b110_9 : ∀ x : Gr w9.heap.size w9, x.val.cell? ⟨gd, 0, none⟩ = _ := fun x => (keepB (show Blk w9 gd 24 (sV ((0 : Nat), (0 : Nat), (0 : Nat))) from b11_9.out) x.is).cell 0
  have zq_b111_9 : ∀ x : Gr w9.heap.size w9, x.val.cell? ⟨gd, 1, none⟩ = _ := fun x => (keepB (show Blk w9 gd 24 (sV ((0 : Nat), (0 : Nat), (0 : Nat))) from b11_9.out) x.is).cell 1
  have zq_b112_9 : ∀ x : Gr w9.heap.size w9, x.val.cell? ⟨gd, 2, none⟩ = _ := fun x => (keepB (show Blk w9 gd 24 (sV ((0 : Nat), (0 : Nat), (0 : Nat))) from b11_9.out) x.is).cell 2
  have zq_b90_9 : ∀ x : Gr w9.heap.size w9, x.val.cell? ⟨(gc + 1), 0, none⟩ = _ := fun x => (keepB (show Blk w9 (gc + 1) 24 (sV ((0 : Nat), (0 : Nat), (0 : Nat))) from b9_9.out) x.is).cell 0
  have zq_b91_9 : ∀ x : Gr w9.heap.size w9, x.val.cell? ⟨(gc + 1), 1, none⟩ = _ := fun x => (keepB (show Blk w9 (gc + 1) 24 (sV ((0 : Nat), (0 : Nat), (0 : Nat))) from b9_9.out) x.is).cell 1
  have zq_b92_9 : ∀ x : Gr w9.heap.size w9, x.val.cell? ⟨(gc + 1), 2, none⟩ = _ := fun x => (keepB (show Blk w9 (gc + 1) 24 (sV ((0 : Nat), (0 : Nat), (0 : Nat))) from b9_9.out) x.is).cell 2
  have zq_b82_9 : ∀ x : Gr w9.heap.size w9, x.val.cell? ⟨gc, 2, none⟩ = _ := fun x => (keepB (show Blk w9 gc 45 (rdV A l.length c q (f1, f2)) from b8_9.out) x.is).cell 2
  have zq_b83_9 : ∀ x : Gr w9.heap.size w9, x.val.cell? ⟨gc, 3, none⟩ = _ := fun x => (keepB (show Blk w9 gc 45 (rdV A l.length c q (f1, f2)) from b8_9.out) x.is).cell 3
  have RQ : Hid (∀ x : Gr w9.heap.size w9, Rd x.val D gr l q (f1, f2)) := fun x => keepR (show Rd w9 D gr l q (f1, f2) from RD_9.out) x.is
  refine wp_region_grow (by kernel_rfl) (by kernel_rfl) w9.heap.size ?_
  repeat (first | go_big_quiet_step ((go_at_call 21; exact Gr.call _ (Nat.le_refl _) (cfault_at (RQ.out _)))) | quiet_step ((go_at_call 21; exact Gr.call _ (Nat.le_refl _) (cfault_at (RQ.out _)))))
  refine wpQuiet_nil ?_
  rintro w10 ⟨⟨_, hb⟩, rfl⟩
  clear zq_b110_9 zq_b111_9 zq_b112_9 zq_b90_9 zq_b91_9 zq_b92_9 zq_b82_9 zq_b83_9 RQ
  have SL_10 : Hid (Sl rpU8 w10 D A l.length c l) := keepS SL_9.out hb
  have b3_10 : Hid (Blk w10 ga 24 (sV ((0 : Nat), (0 : Nat), (0 : Nat)))) := keepB b3_9.out hb
  have b5_10 : Hid (Blk w10 (ga + 1) 37 (fV (f1, f2))) := keepB b5_9.out hb
  have b6_10 : Hid (Blk w10 gb 24 (sV ((0 : Nat), (0 : Nat), (0 : Nat)))) := keepB b6_9.out hb
  have b7_10 : Hid (Blk w10 (gb + 1) 37 (fV (f1, f2))) := keepB b7_9.out hb
  have b8_10 : Hid (Blk w10 gc 45 (rdV A l.length c q (f1, f2))) := keepB b8_9.out hb
  have b9_10 : Hid (Blk w10 (gc + 1) 24 (sV ((0 : Nat), (0 : Nat), (0 : Nat)))) := keepB b9_9.out hb
  have RD_10 : Hid (Rd w10 D gr l q (f1, f2)) := keepR RD_9.out hb
  have b11_10 : Hid (Blk w10 gd 24 (sV ((0 : Nat), (0 : Nat), (0 : Nat)))) := keepB b11_9.out hb
  have BB_10 : Hid (Below w.heap.size w w10) := stepB BB_9.out hb
  clear hb
  have z_b30_10 := (show Blk w10 ga 24 (sV ((0 : Nat), (0 : Nat), (0 : Nat))) from b3_10.out).cell 0
  have z_b31_10 := (show Blk w10 ga 24 (sV ((0 : Nat), (0 : Nat), (0 : Nat))) from b3_10.out).cell 1
  have z_b32_10 := (show Blk w10 ga 24 (sV ((0 : Nat), (0 : Nat), (0 : Nat))) from b3_10.out).cell 2
  have z_b90_10 := (show Blk w10 (gc + 1) 24 (sV ((0 : Nat), (0 : Nat), (0 : Nat))) from b9_10.out).cell 0
  have z_b91_10 := (show Blk w10 (gc + 1) 24 (sV ((0 : Nat), (0 : Nat), (0 : Nat))) from b9_10.out).cell 1
  have z_b92_10 := (show Blk w10 (gc + 1) 24 (sV ((0 : Nat), (0 : Nat), (0 : Nat))) from b9_10.out).cell 2
  have z_b50_10 := (show Blk w10 (ga + 1) 37 (fV (f1, f2)) from b5_10.out).cell 0
  have z_b51_10 := (show Blk w10 (ga + 1) 37 (fV (f1, f2)) from b5_10.out).cell 1
  have z_b81_10 := (show Blk w10 gc 45 (rdV A l.length c q (f1, f2)) from b8_10.out).cell 1
  have z_b82_10 := (show Blk w10 gc 45 (rdV A l.length c q (f1, f2)) from b8_10.out).cell 2
  have z_b83_10 := (show Blk w10 gc 45 (rdV A l.length c q (f1, f2)) from b8_10.out).cell 3
  go_wp2_with fail
  have zq_b82_10 : ∀ x : Gr w10.heap.size w10, x.val.cell? ⟨gc, 2, none⟩ = _ := fun x => (keepB (show Blk w10 gc 45 (rdV A l.length c q (f1, f2)) from b8_10.out) x.is).cell 2
  clear z_b30_10 z_b31_10 z_b32_10 z_b90_10 z_b91_10 z_b92_10 z_b50_10 z_b51_10 z_b81_10 z_b82_10 z_b83_10
  refine wp_region_grow (by kernel_rfl) (by kernel_rfl) w10.heap.size ?_
  repeat (first | go_big_quiet_step (fail) | quiet_step (fail))
  refine wpQuiet_nil ?_
  rintro w11 ⟨⟨_, hb⟩, rfl⟩
  clear zq_b82_10
  have SL_11 : Hid (Sl rpU8 w11 D A l.length c l) := keepS SL_10.out hb
  have b3_11 : Hid (Blk w11 ga 24 (sV ((0 : Nat), (0 : Nat), (0 : Nat)))) := keepB b3_10.out hb
  have b5_11 : Hid (Blk w11 (ga + 1) 37 (fV (f1, f2))) := keepB b5_10.out hb
  have b6_11 : Hid (Blk w11 gb 24 (sV ((0 : Nat), (0 : Nat), (0 : Nat)))) := keepB b6_10.out hb
  have b7_11 : Hid (Blk w11 (gb + 1) 37 (fV (f1, f2))) := keepB b7_10.out hb
  have b8_11 : Hid (Blk w11 gc 45 (rdV A l.length c q (f1, f2))) := keepB b8_10.out hb
  have b9_11 : Hid (Blk w11 (gc + 1) 24 (sV ((0 : Nat), (0 : Nat), (0 : Nat)))) := keepB b9_10.out hb
  have RD_11 : Hid (Rd w11 D gr l q (f1, f2)) := keepR RD_10.out hb
  have b11_11 : Hid (Blk w11 gd 24 (sV ((0 : Nat), (0 : Nat), (0 : Nat)))) := keepB b11_10.out hb
  have BB_11 : Hid (Below w.heap.size w w11) := stepB BB_10.out hb
  clear hb
  have z_b80_11 := (show Blk w11 gc 45 (rdV A l.length c q (f1, f2)) from b8_11.out).cell 0
  have z_b81_11 := (show Blk w11 gc 45 (rdV A l.length c q (f1, f2)) from b8_11.out).cell 1
  have z_b82_11 := (show Blk w11 gc 45 (rdV A l.length c q (f1, f2)) from b8_11.out).cell 2
  have z_b83_11 := (show Blk w11 gc 45 (rdV A l.length c q (f1, f2)) from b8_11.out).cell 3
  go_wp2_with fail
  refine (HEND.out _).mono ?_; rintro en w12 ⟨rfl, hb⟩
  have SL_12 : Hid (Sl rpU8 w12 D A l.length c l) := keepS SL_11.out hb
  have b3_12 : Hid (Blk w12 ga 24 (sV ((0 : Nat), (0 : Nat), (0 : Nat)))) := keepB b3_11.out hb
  have b5_12 : Hid (Blk w12 (ga + 1) 37 (fV (f1, f2))) := keepB b5_11.out hb
  have b6_12 : Hid (Blk w12 gb 24 (sV ((0 : Nat), (0 : Nat), (0 : Nat)))) := keepB b6_11.out hb
  have b7_12 : Hid (Blk w12 (gb + 1) 37 (fV (f1, f2))) := keepB b7_11.out hb
  have b8_12 : Hid (Blk w12 gc 45 (rdV A l.length c q (f1, f2))) := keepB b8_11.out hb
  have b9_12 : Hid (Blk w12 (gc + 1) 24 (sV ((0 : Nat), (0 : Nat), (0 : Nat)))) := keepB b9_11.out hb
  have RD_12 : Hid (Rd w12 D gr l q (f1, f2)) := keepR RD_11.out hb
  have b11_12 : Hid (Blk w12 gd 24 (sV ((0 : Nat), (0 : Nat), (0 : Nat)))) := keepB b11_11.out hb
  have BB_12 : Hid (Below w.heap.size w w12) := stepB BB_11.out hb
  clear z_b80_11 z_b81_11 z_b82_11 z_b83_11
  clear hb
  have z_b60_12 := (show Blk w12 gb 24 (sV ((0 : Nat), (0 : Nat), (0 : Nat))) from b6_12.out).cell 0
  have z_b61_12 := (show Blk w12 gb 24 (sV ((0 : Nat), (0 : Nat), (0 : Nat))) from b6_12.out).cell 1
  have z_b62_12 := (show Blk w12 gb 24 (sV ((0 : Nat), (0 : Nat), (0 : Nat))) from b6_12.out).cell 2
  have z_b70_12 := (show Blk w12 (gb + 1) 37 (fV (f1, f2)) from b7_12.out).cell 0
  have z_b71_12 := (show Blk w12 (gb + 1) 37 (fV (f1, f2)) from b7_12.out).cell 1
  have lu_b6_12 := (show Blk w12 gb 24 (sV ((0 : Nat), (0 : Nat), (0 : Nat))) from b6_12.out).lt
  have lu_b7_12 := (show Blk w12 (gb + 1) 37 (fV (f1, f2)) from b7_12.out).lt
  go_wp2_with fail
  have hb : Below w12.heap.size w12 (w12.alloc (.cells (rdV A l.length c q (f1, f2)) 45)) := below1 _ (.cells (rdV A l.length c q (f1, f2)) 45)
  have SL_13 : Hid (Sl rpU8 (w12.alloc (.cells (rdV A l.length c q (f1, f2)) 45)) D A l.length c l) := keepS SL_12.out hb
  have b3_13 : Hid (Blk (w12.alloc (.cells (rdV A l.length c q (f1, f2)) 45)) ga 24 (sV ((0 : Nat), (0 : Nat), (0 : Nat)))) := keepB b3_12.out hb
  have b5_13 : Hid (Blk (w12.alloc (.cells (rdV A l.length c q (f1, f2)) 45)) (ga + 1) 37 (fV (f1, f2))) := keepB b5_12.out hb
  have b6_13 : Hid (Blk (w12.alloc (.cells (rdV A l.length c q (f1, f2)) 45)) gb 24 (sV ((0 : Nat), (0 : Nat), (0 : Nat)))) := keepB b6_12.out hb
  have b7_13 : Hid (Blk (w12.alloc (.cells (rdV A l.length c q (f1, f2)) 45)) (gb + 1) 37 (fV (f1, f2))) := keepB b7_12.out hb
  have b8_13 : Hid (Blk (w12.alloc (.cells (rdV A l.length c q (f1, f2)) 45)) gc 45 (rdV A l.length c q (f1, f2))) := keepB b8_12.out hb
  have b9_13 : Hid (Blk (w12.alloc (.cells (rdV A l.length c q (f1, f2)) 45)) (gc + 1) 24 (sV ((0 : Nat), (0 : Nat), (0 : Nat)))) := keepB b9_12.out hb
  have RD_13 : Hid (Rd (w12.alloc (.cells (rdV A l.length c q (f1, f2)) 45)) D gr l q (f1, f2)) := keepR RD_12.out hb
  have b11_13 : Hid (Blk (w12.alloc (.cells (rdV A l.length c q (f1, f2)) 45)) gd 24 (sV ((0 : Nat), (0 : Nat), (0 : Nat)))) := keepB b11_12.out hb
  have BB_13 : Hid (Below w.heap.size w (w12.alloc (.cells (rdV A l.length c q (f1, f2)) 45))) := stepB BB_12.out hb
  have sz_12 := BB_12.out.size
  have b12_13 : Hid (Blk (w12.alloc (.cells (rdV A l.length c q (f1, f2)) 45)) w12.heap.size 45 (rdV A l.length c q (f1, f2))) := blk11 _ _ _
  clear hb
  generalize hge : w12.heap.size = ge at *
  generalize World.alloc w12 _ = w13 at *
  clear z_b60_12 z_b61_12 z_b62_12 z_b70_12 z_b71_12 lu_b6_12 lu_b7_12
  refine (HLV.out _).mono ?_; rintro en w14 ⟨rfl, hb⟩
  have SL_14 : Hid (Sl rpU8 w14 D A l.length c l) := keepS SL_13.out hb
  have b3_14 : Hid (Blk w14 ga 24 (sV ((0 : Nat), (0 : Nat), (0 : Nat)))) := keepB b3_13.out hb
  have b5_14 : Hid (Blk w14 (ga + 1) 37 (fV (f1, f2))) := keepB b5_13.out hb
  have b6_14 : Hid (Blk w14 gb 24 (sV ((0 : Nat), (0 : Nat), (0 : Nat)))) := keepB b6_13.out hb
  have b7_14 : Hid (Blk w14 (gb + 1) 37 (fV (f1, f2))) := keepB b7_13.out hb
  have b8_14 : Hid (Blk w14 gc 45 (rdV A l.length c q (f1, f2))) := keepB b8_13.out hb
  have b9_14 : Hid (Blk w14 (gc + 1) 24 (sV ((0 : Nat), (0 : Nat), (0 : Nat)))) := keepB b9_13.out hb
  have RD_14 : Hid (Rd w14 D gr l q (f1, f2)) := keepR RD_13.out hb
  have b11_14 : Hid (Blk w14 gd 24 (sV ((0 : Nat), (0 : Nat), (0 : Nat)))) := keepB b11_13.out hb
  have b12_14 : Hid (Blk w14 ge 45 (rdV A l.length c q (f1, f2))) := keepB b12_13.out hb
  have BB_14 : Hid (Below w.heap.size w w14) := stepB BB_13.out hb
  clear hb
  go_wp2_with fail
  go_ret
  exact ⟨rfl, BB_14.out⟩
set_option maxRecDepth 100000 in
set_option maxHeartbeats 4000000 in
theorem sreads_rest {s : Sea} {q : Nat} {F : Flt} {D : Dom} {A : Option Addr} {n c : Nat} {l : List UInt8} {w : World} (h : rpU8.sl w D A n c l) (hD : ∀ k, D k → k < w.heap.size) (hn : n ≤ 300) (hF : q < l.length) (hs : sealF l 0 (0, 0) = (s, q, (0, 0))) :
    Calls Try.prog 4 #[.slice A n c] w fun e w' => e = .returned (.bool true) ∧ Below w.heap.size w w' := by
  obtain ⟨hlen, hnc, hcm⟩ := Rp.sl_len h
  unfold maxLen at hcm
  subst hlen
  have hl : l.length ≤ 1000000000 := by omega
  have hqle : q ≤ l.length := by have := sealF_place (l := l) (p := 0) (f := (0, 0)) (Nat.zero_le _); rw [hs] at this; exact this
  have e1 : endF l.length q (0, 0) = (9, (q : Int)) := by
    unfold endF
    rw [if_pos hF, failF_set rfl (by decide)]
  have e2 : gotS s ((9 : Int), (q : Int)) = ((0 : Nat), (0 : Nat), (0 : Nat)) := if_neg (by simp)
  have e3 : gotN q (0, 0) = q := if_pos rfl
  have hinv := sealF_inv (l := l) (p := 0) (f := (0, 0)) (by rw [hs])
  rw [hs] at hinv
  obtain ⟨hok, hq, _, hst⟩ := hinv
  rw [Nat.zero_add] at hq
  have htk : l.take q = sbytes s := by
    have := hst.eq0 (by rw [← hq]; exact hqle)
    rw [← hq] at this; exact this
  have HBY : Hid (∀ w : World, Calls Try.prog 17 #[.agg (sV s)] w fun e w' => ∃ A n c, e = .returned (.slice A n c) ∧ w'.ownsRow w.heap.size 5 1 (.slice A n c) n ((sbytes s).map bv) ∧ Below w.heap.size w w') := fun w => rsbytes_any s (seaOk_lt hok) w
  have HTK := Lib.hid htk
  clear hok hq hst htk
  have HGET : Hid (∀ w', Sl rpU8 w' D A l.length c l → Calls Try.prog 15 #[.slice A l.length c] w' fun e w'' => e = .returned (.tuple #[.agg (sV s), .int .i64 ((q : Int)), .agg (fV ((0 : Int), (0 : Int)))]) ∧ Below w'.heap.size w' w'') := fun w' h => by
    have := sget_any h.1 h.2 hl
    rw [hs] at this
    simp only at this
    rw [e3] at this
    exact this
  have HDEC : Hid (∀ w', Sl rpU8 w' D A l.length c l → Calls Try.prog 16 #[.slice A l.length c] w' fun e w'' => e = .returned (.tuple #[.agg (sV ((0 : Nat), (0 : Nat), (0 : Nat))), .agg (fV ((9 : Int), (q : Int)))]) ∧ Below w'.heap.size w' w'') := fun w' h => by
    have := sdecode_any h.1 h.2 hl
    rw [hs] at this
    simp only at this
    rw [e1, e2] at this
    exact this
  have HREF : Hid (∀ w', Sl rpU8 w' D A l.length c l → Calls Try.prog 18 #[.agg (rdV A l.length c ((0 : Nat) : Int) (0, 0))] w' fun e w'' => e = .returned (.tuple #[.agg (rdV A l.length c q ((0 : Int), (0 : Int))), .agg (sV s)]) ∧ Below w'.heap.size w' w'') := fun w' h => by
    have := rsread_any h.1 h.2 OkF.nil (Nat.zero_le _) hl
    rw [hs] at this
    exact this
  have HRD : Hid (∀ (w : World) (g : Nat), Rd w D g l 0 (0, 0) → Calls Try.prog 20 #[.pointer (some ⟨g, 0, none⟩)] w fun e w' => e = .returned (.agg (sV s)) ∧ Rd w' D g l q ((0 : Int), (0 : Int)) ∧ Chg (one g) w w') := fun w g h => by
    have := sread_at h OkF.nil hl
    rw [hs] at this
    exact this
  have HEND : Hid (∀ w' : World, Calls Try.prog 22 #[.agg (rdV A l.length c q ((0 : Int), (0 : Int)))] w' fun e w'' => e = .returned (.agg (rdV A l.length c q ((9 : Int), (q : Int)))) ∧ Below w'.heap.size w' w'') := fun w' => by
    have := rend_any A l.length c q ((0 : Int), (0 : Int)) w' hqle hl
    rw [e1] at this
    exact this
  have HLV : Hid (∀ w : World, Calls Try.prog 7 #[] w fun e w' => e = .returned (.bool true) ∧ Below w.heap.size w w') := slive_any
  have hd300 : decide ((300 : Int) < (l.length : Int)) = false := by simp; omega
  have SL_0 : Hid (Sl rpU8 w D A l.length c l) := ⟨h, hD⟩
  have BB_0 : Hid (Below w.heap.size w w) := Below.refl _ _
  have HQ := Lib.hid hqle
  clear h hD hs hF e1 e2 e3
  go_enter Try.func4, Try.ntmps4
  go_wp2_with fail
  refine (HGET.out _ SL_0.out).mono ?_; rintro en w1 ⟨rfl, hb⟩
  have SL_1 : Hid (Sl rpU8 w1 D A l.length c l) := keepS SL_0.out hb
  have BB_1 : Hid (Below w.heap.size w w1) := stepB BB_0.out hb
  clear hb
  go_wp2_with fail
  have hb : Below w1.heap.size w1 ((w1.alloc (.cells (sV s) 24)).alloc (.cells (fV ((0 : Int), (0 : Int))) 37)) := below2 _ (.cells (sV s) 24) (.cells (fV ((0 : Int), (0 : Int))) 37)
  have SL_2 : Hid (Sl rpU8 ((w1.alloc (.cells (sV s) 24)).alloc (.cells (fV ((0 : Int), (0 : Int))) 37)) D A l.length c l) := keepS SL_1.out hb
  have BB_2 : Hid (Below w.heap.size w ((w1.alloc (.cells (sV s) 24)).alloc (.cells (fV ((0 : Int), (0 : Int))) 37))) := stepB BB_1.out hb
  have sz_1 := BB_1.out.size
  have b3_2 : Hid (Blk ((w1.alloc (.cells (sV s) 24)).alloc (.cells (fV ((0 : Int), (0 : Int))) 37)) w1.heap.size 24 (sV s)) := blk21 _ _ _ _ _
  have b5_2 : Hid (Blk ((w1.alloc (.cells (sV s) 24)).alloc (.cells (fV ((0 : Int), (0 : Int))) 37)) (w1.heap.size + 1) 37 (fV ((0 : Int), (0 : Int)))) := blk22 _ _ _ _ _
  clear hb
  generalize hga : w1.heap.size = ga at *
  generalize World.alloc (World.alloc w1 _) _ = w2 at *
  refine (HDEC.out _ SL_2.out).mono ?_; rintro en w3 ⟨rfl, hb⟩
  have SL_3 : Hid (Sl rpU8 w3 D A l.length c l) := keepS SL_2.out hb
  have b3_3 : Hid (Blk w3 ga 24 (sV s)) := keepB b3_2.out hb
  have b5_3 : Hid (Blk w3 (ga + 1) 37 (fV ((0 : Int), (0 : Int)))) := keepB b5_2.out hb
  have BB_3 : Hid (Below w.heap.size w w3) := stepB BB_2.out hb
  clear hb
  go_wp2_with fail
  have lt_b5_3 := (show Blk w3 (ga + 1) 37 (fV ((0 : Int), (0 : Int))) from b5_3.out).lt
  have hb : Below w3.heap.size w3 ((w3.alloc (.cells (sV ((0 : Nat), (0 : Nat), (0 : Nat))) 24)).alloc (.cells (fV ((9 : Int), (q : Int))) 37)) := below2 _ (.cells (sV ((0 : Nat), (0 : Nat), (0 : Nat))) 24) (.cells (fV ((9 : Int), (q : Int))) 37)
  have SL_4 : Hid (Sl rpU8 ((w3.alloc (.cells (sV ((0 : Nat), (0 : Nat), (0 : Nat))) 24)).alloc (.cells (fV ((9 : Int), (q : Int))) 37)) D A l.length c l) := keepS SL_3.out hb
  have b3_4 : Hid (Blk ((w3.alloc (.cells (sV ((0 : Nat), (0 : Nat), (0 : Nat))) 24)).alloc (.cells (fV ((9 : Int), (q : Int))) 37)) ga 24 (sV s)) := keepB b3_3.out hb
  have b5_4 : Hid (Blk ((w3.alloc (.cells (sV ((0 : Nat), (0 : Nat), (0 : Nat))) 24)).alloc (.cells (fV ((9 : Int), (q : Int))) 37)) (ga + 1) 37 (fV ((0 : Int), (0 : Int)))) := keepB b5_3.out hb
  have BB_4 : Hid (Below w.heap.size w ((w3.alloc (.cells (sV ((0 : Nat), (0 : Nat), (0 : Nat))) 24)).alloc (.cells (fV ((9 : Int), (q : Int))) 37))) := stepB BB_3.out hb
  have sz_3 := BB_3.out.size
  have b6_4 : Hid (Blk ((w3.alloc (.cells (sV ((0 : Nat), (0 : Nat), (0 : Nat))) 24)).alloc (.cells (fV ((9 : Int), (q : Int))) 37)) w3.heap.size 24 (sV ((0 : Nat), (0 : Nat), (0 : Nat)))) := blk21 _ _ _ _ _
  have b7_4 : Hid (Blk ((w3.alloc (.cells (sV ((0 : Nat), (0 : Nat), (0 : Nat))) 24)).alloc (.cells (fV ((9 : Int), (q : Int))) 37)) (w3.heap.size + 1) 37 (fV ((9 : Int), (q : Int)))) := blk22 _ _ _ _ _
  clear hb
  generalize hgb : w3.heap.size = gb at *
  generalize World.alloc (World.alloc w3 _) _ = w4 at *
  refine (HREF.out _ SL_4.out).mono ?_; rintro en w5 ⟨rfl, hb⟩
  have SL_5 : Hid (Sl rpU8 w5 D A l.length c l) := keepS SL_4.out hb
  have b3_5 : Hid (Blk w5 ga 24 (sV s)) := keepB b3_4.out hb
  have b5_5 : Hid (Blk w5 (ga + 1) 37 (fV ((0 : Int), (0 : Int)))) := keepB b5_4.out hb
  have b6_5 : Hid (Blk w5 gb 24 (sV ((0 : Nat), (0 : Nat), (0 : Nat)))) := keepB b6_4.out hb
  have b7_5 : Hid (Blk w5 (gb + 1) 37 (fV ((9 : Int), (q : Int)))) := keepB b7_4.out hb
  have BB_5 : Hid (Below w.heap.size w w5) := stepB BB_4.out hb
  clear hb
  go_wp2_with fail
  have lt_b7_5 := (show Blk w5 (gb + 1) 37 (fV ((9 : Int), (q : Int))) from b7_5.out).lt
  have hb : Below w5.heap.size w5 ((w5.alloc (.cells (rdV A l.length c q ((0 : Int), (0 : Int))) 45)).alloc (.cells (sV s) 24)) := below2 _ (.cells (rdV A l.length c q ((0 : Int), (0 : Int))) 45) (.cells (sV s) 24)
  have SL_6 : Hid (Sl rpU8 ((w5.alloc (.cells (rdV A l.length c q ((0 : Int), (0 : Int))) 45)).alloc (.cells (sV s) 24)) D A l.length c l) := keepS SL_5.out hb
  have b3_6 : Hid (Blk ((w5.alloc (.cells (rdV A l.length c q ((0 : Int), (0 : Int))) 45)).alloc (.cells (sV s) 24)) ga 24 (sV s)) := keepB b3_5.out hb
  have b5_6 : Hid (Blk ((w5.alloc (.cells (rdV A l.length c q ((0 : Int), (0 : Int))) 45)).alloc (.cells (sV s) 24)) (ga + 1) 37 (fV ((0 : Int), (0 : Int)))) := keepB b5_5.out hb
  have b6_6 : Hid (Blk ((w5.alloc (.cells (rdV A l.length c q ((0 : Int), (0 : Int))) 45)).alloc (.cells (sV s) 24)) gb 24 (sV ((0 : Nat), (0 : Nat), (0 : Nat)))) := keepB b6_5.out hb
  have b7_6 : Hid (Blk ((w5.alloc (.cells (rdV A l.length c q ((0 : Int), (0 : Int))) 45)).alloc (.cells (sV s) 24)) (gb + 1) 37 (fV ((9 : Int), (q : Int)))) := keepB b7_5.out hb
  have BB_6 : Hid (Below w.heap.size w ((w5.alloc (.cells (rdV A l.length c q ((0 : Int), (0 : Int))) 45)).alloc (.cells (sV s) 24))) := stepB BB_5.out hb
  have sz_5 := BB_5.out.size
  have b8_6 : Hid (Blk ((w5.alloc (.cells (rdV A l.length c q ((0 : Int), (0 : Int))) 45)).alloc (.cells (sV s) 24)) w5.heap.size 45 (rdV A l.length c q ((0 : Int), (0 : Int)))) := blk21 _ _ _ _ _
  have b9_6 : Hid (Blk ((w5.alloc (.cells (rdV A l.length c q ((0 : Int), (0 : Int))) 45)).alloc (.cells (sV s) 24)) (w5.heap.size + 1) 24 (sV s)) := blk22 _ _ _ _ _
  clear hb
  generalize hgc : w5.heap.size = gc at *
  generalize World.alloc (World.alloc w5 _) _ = w6 at *
  refine (cnew_any (SL_6.out).1 (SL_6.out).2).mono ?_; rintro en w7 ⟨rfl, hr, hb⟩
  have ltg := (show Blk w6 (gc + 1) 24 (sV s) from b9_6.out).lt
  obtain ⟨gr, hgr⟩ : ∃ gr, gr = w6.heap.size := ⟨_, rfl⟩
  have szr := BB_6.out.size
  rw [← hgr] at hr ltg szr
  have SL_7 : Hid (Sl rpU8 w7 D A l.length c l) := keepS SL_6.out hb
  have b3_7 : Hid (Blk w7 ga 24 (sV s)) := keepB b3_6.out hb
  have b5_7 : Hid (Blk w7 (ga + 1) 37 (fV ((0 : Int), (0 : Int)))) := keepB b5_6.out hb
  have b6_7 : Hid (Blk w7 gb 24 (sV ((0 : Nat), (0 : Nat), (0 : Nat)))) := keepB b6_6.out hb
  have b7_7 : Hid (Blk w7 (gb + 1) 37 (fV ((9 : Int), (q : Int)))) := keepB b7_6.out hb
  have b8_7 : Hid (Blk w7 gc 45 (rdV A l.length c q ((0 : Int), (0 : Int)))) := keepB b8_6.out hb
  have b9_7 : Hid (Blk w7 (gc + 1) 24 (sV s)) := keepB b9_6.out hb
  have BB_7 : Hid (Below w.heap.size w w7) := stepB BB_6.out hb
  have RD_7 : Hid (Rd w7 D gr l 0 (0, 0)) := hr
  clear hb
  clear hr
  rw [← hgr]
  clear hgr
  go_wp2_with fail
  refine (HRD.out _ _ RD_7.out).mono ?_; rintro en w8 ⟨rfl, hr, hc⟩
  have SL_8 : Hid (Sl rpU8 w8 D A l.length c l) := chS SL_7.out hc (fun k hk e => by have e : k = gr := e; have := (SL_0.out).2 k hk; omega)
  have b3_8 : Hid (Blk w8 ga 24 (sV s)) := chB b3_7.out hc (fun e => by have e : _ = gr := e; omega)
  have b5_8 : Hid (Blk w8 (ga + 1) 37 (fV ((0 : Int), (0 : Int)))) := chB b5_7.out hc (fun e => by have e : _ = gr := e; omega)
  have b6_8 : Hid (Blk w8 gb 24 (sV ((0 : Nat), (0 : Nat), (0 : Nat)))) := chB b6_7.out hc (fun e => by have e : _ = gr := e; omega)
  have b7_8 : Hid (Blk w8 (gb + 1) 37 (fV ((9 : Int), (q : Int)))) := chB b7_7.out hc (fun e => by have e : _ = gr := e; omega)
  have b8_8 : Hid (Blk w8 gc 45 (rdV A l.length c q ((0 : Int), (0 : Int)))) := chB b8_7.out hc (fun e => by have e : _ = gr := e; omega)
  have b9_8 : Hid (Blk w8 (gc + 1) 24 (sV s)) := chB b9_7.out hc (fun e => by have e : _ = gr := e; omega)
  have BB_8 : Hid (Below w.heap.size w w8) := chBase BB_7.out hc (fun k hk => by have e : k = gr := hk; omega)
  have RD_8 : Hid (Rd w8 D gr l q ((0 : Int), (0 : Int))) := hr
  clear hr hc
  go_wp2_with fail
  have hb : Below w8.heap.size w8 (w8.alloc (.cells (sV s) 24)) := below1 _ (.cells (sV s) 24)
  have SL_9 : Hid (Sl rpU8 (w8.alloc (.cells (sV s) 24)) D A l.length c l) := keepS SL_8.out hb
  have b3_9 : Hid (Blk (w8.alloc (.cells (sV s) 24)) ga 24 (sV s)) := keepB b3_8.out hb
  have b5_9 : Hid (Blk (w8.alloc (.cells (sV s) 24)) (ga + 1) 37 (fV ((0 : Int), (0 : Int)))) := keepB b5_8.out hb
  have b6_9 : Hid (Blk (w8.alloc (.cells (sV s) 24)) gb 24 (sV ((0 : Nat), (0 : Nat), (0 : Nat)))) := keepB b6_8.out hb
  have b7_9 : Hid (Blk (w8.alloc (.cells (sV s) 24)) (gb + 1) 37 (fV ((9 : Int), (q : Int)))) := keepB b7_8.out hb
  have b8_9 : Hid (Blk (w8.alloc (.cells (sV s) 24)) gc 45 (rdV A l.length c q ((0 : Int), (0 : Int)))) := keepB b8_8.out hb
  have b9_9 : Hid (Blk (w8.alloc (.cells (sV s) 24)) (gc + 1) 24 (sV s)) := keepB b9_8.out hb
  have RD_9 : Hid (Rd (w8.alloc (.cells (sV s) 24)) D gr l q ((0 : Int), (0 : Int))) := keepR RD_8.out hb
  have BB_9 : Hid (Below w.heap.size w (w8.alloc (.cells (sV s) 24))) := stepB BB_8.out hb
  have sz_8 := BB_8.out.size
  have b11_9 : Hid (Blk (w8.alloc (.cells (sV s) 24)) w8.heap.size 24 (sV s)) := blk11 _ _ _
  clear hb
  generalize hgd : w8.heap.size = gd at *
  generalize World.alloc w8 _ = w9 at *
  have zq_b110_9 : ∀ x : Gr w9.heap.size w9, x.val.cell? ⟨gd, 0, none⟩ = _ := fun x => (keepB (show Blk w9 gd 24 (sV s) from b11_9.out) x.is).cell 0
  have zq_b111_9 : ∀ x : Gr w9.heap.size w9, x.val.cell? ⟨gd, 1, none⟩ = _ := fun x => (keepB (show Blk w9 gd 24 (sV s) from b11_9.out) x.is).cell 1
  have zq_b112_9 : ∀ x : Gr w9.heap.size w9, x.val.cell? ⟨gd, 2, none⟩ = _ := fun x => (keepB (show Blk w9 gd 24 (sV s) from b11_9.out) x.is).cell 2
  have zq_b90_9 : ∀ x : Gr w9.heap.size w9, x.val.cell? ⟨(gc + 1), 0, none⟩ = _ := fun x => (keepB (show Blk w9 (gc + 1) 24 (sV s) from b9_9.out) x.is).cell 0
  have zq_b91_9 : ∀ x : Gr w9.heap.size w9, x.val.cell? ⟨(gc + 1), 1, none⟩ = _ := fun x => (keepB (show Blk w9 (gc + 1) 24 (sV s) from b9_9.out) x.is).cell 1
  have zq_b92_9 : ∀ x : Gr w9.heap.size w9, x.val.cell? ⟨(gc + 1), 2, none⟩ = _ := fun x => (keepB (show Blk w9 (gc + 1) 24 (sV s) from b9_9.out) x.is).cell 2
  have zq_b82_9 : ∀ x : Gr w9.heap.size w9, x.val.cell? ⟨gc, 2, none⟩ = _ := fun x => (keepB (show Blk w9 gc 45 (rdV A l.length c q ((0 : Int), (0 : Int))) from b8_9.out) x.is).cell 2
  have zq_b83_9 : ∀ x : Gr w9.heap.size w9, x.val.cell? ⟨gc, 3, none⟩ = _ := fun x => (keepB (show Blk w9 gc 45 (rdV A l.length c q ((0 : Int), (0 : Int))) from b8_9.out) x.is).cell 3
  have RQ : Hid (∀ x : Gr w9.heap.size w9, Rd x.val D gr l q ((0 : Int), (0 : Int))) := fun x => keepR (show Rd w9 D gr l q ((0 : Int), (0 : Int)) from RD_9.out) x.is
  refine wp_region_grow (by kernel_rfl) (by kernel_rfl) w9.heap.size ?_
  repeat (first | go_big_quiet_step ((go_at_call 21; exact Gr.call _ (Nat.le_refl _) (cfault_at (RQ.out _)))) | quiet_step ((go_at_call 21; exact Gr.call _ (Nat.le_refl _) (cfault_at (RQ.out _)))))
  refine wpQuiet_nil ?_
  rintro w10 ⟨⟨_, hb⟩, rfl⟩
  clear zq_b110_9 zq_b111_9 zq_b112_9 zq_b90_9 zq_b91_9 zq_b92_9 zq_b82_9 zq_b83_9 RQ
  have SL_10 : Hid (Sl rpU8 w10 D A l.length c l) := keepS SL_9.out hb
  have b3_10 : Hid (Blk w10 ga 24 (sV s)) := keepB b3_9.out hb
  have b5_10 : Hid (Blk w10 (ga + 1) 37 (fV ((0 : Int), (0 : Int)))) := keepB b5_9.out hb
  have b6_10 : Hid (Blk w10 gb 24 (sV ((0 : Nat), (0 : Nat), (0 : Nat)))) := keepB b6_9.out hb
  have b7_10 : Hid (Blk w10 (gb + 1) 37 (fV ((9 : Int), (q : Int)))) := keepB b7_9.out hb
  have b8_10 : Hid (Blk w10 gc 45 (rdV A l.length c q ((0 : Int), (0 : Int)))) := keepB b8_9.out hb
  have b9_10 : Hid (Blk w10 (gc + 1) 24 (sV s)) := keepB b9_9.out hb
  have RD_10 : Hid (Rd w10 D gr l q ((0 : Int), (0 : Int))) := keepR RD_9.out hb
  have b11_10 : Hid (Blk w10 gd 24 (sV s)) := keepB b11_9.out hb
  have BB_10 : Hid (Below w.heap.size w w10) := stepB BB_9.out hb
  clear hb
  have z_b30_10 := (show Blk w10 ga 24 (sV s) from b3_10.out).cell 0
  have z_b31_10 := (show Blk w10 ga 24 (sV s) from b3_10.out).cell 1
  have z_b32_10 := (show Blk w10 ga 24 (sV s) from b3_10.out).cell 2
  have z_b90_10 := (show Blk w10 (gc + 1) 24 (sV s) from b9_10.out).cell 0
  have z_b91_10 := (show Blk w10 (gc + 1) 24 (sV s) from b9_10.out).cell 1
  have z_b92_10 := (show Blk w10 (gc + 1) 24 (sV s) from b9_10.out).cell 2
  have z_b50_10 := (show Blk w10 (ga + 1) 37 (fV ((0 : Int), (0 : Int))) from b5_10.out).cell 0
  have z_b51_10 := (show Blk w10 (ga + 1) 37 (fV ((0 : Int), (0 : Int))) from b5_10.out).cell 1
  have z_b81_10 := (show Blk w10 gc 45 (rdV A l.length c q ((0 : Int), (0 : Int))) from b8_10.out).cell 1
  have z_b82_10 := (show Blk w10 gc 45 (rdV A l.length c q ((0 : Int), (0 : Int))) from b8_10.out).cell 2
  have z_b83_10 := (show Blk w10 gc 45 (rdV A l.length c q ((0 : Int), (0 : Int))) from b8_10.out).cell 3
  go_wp2_with fail
  obtain ⟨Ac, hcut, hsc⟩ := run_cut_h elemU (SL_10.out).1 rfl (q : Int) (by omega) (by omega)
  rw [Int.toNat_natCast] at hcut hsc
  have HSC : Hid (Sl rpU8 w10 D Ac q c (l.take q)) := ⟨hsc, (SL_10.out).2⟩
  clear hsc
  go_region_held3 (fun w' => w'.cell? ⟨gc, 2, none⟩ = some (.int .i64 0) ∧ w'.cell? ⟨ga, 0, none⟩ = some (.int .u64 (s.1 : Int)) ∧ w'.cell? ⟨ga, 1, none⟩ = some (.int .u64 (s.2.1 : Int)) ∧ w'.cell? ⟨ga, 2, none⟩ = some (.int .u64 (s.2.2 : Int)))
    (first | go_keep | exact ⟨k0, k1, k2, k3⟩ | exact ⟨z_b82_10, z_b30_10, z_b31_10, z_b32_10⟩)
    (first
      | (go_at_call 17; refine (HBY.out _).mono ?_; rintro en wy ⟨Ay, ny, cy, rfl, ho, hby⟩; have hb : Below w10.heap.size w10 wy := ⟨hby.os, hby.tape, hby.output, hby.size, hby.block⟩; have k0 := (keepB (show Blk w10 gc 45 (rdV A l.length c q ((0 : Int), (0 : Int))) from b8_10.out) hb).cell 2; have k1 := (keepB (show Blk w10 ga 24 (sV s) from b3_10.out) hb).cell 0; have k2 := (keepB (show Blk w10 ga 24 (sV s) from b3_10.out) hb).cell 1; have k3 := (keepB (show Blk w10 ga 24 (sV s) from b3_10.out) hb).cell 2; have hsm := same_any _ _ _ _ _ _ _ _ _ _ wy (own_bytes ho) (keepS HSC.out hb).1; rw [HTK.out] at hsm; have HSM := Lib.hid hsm; have HBY2 := Lib.hid hb; clear hby hb ho hsm)
      | (go_at_call 12; refine HSM.out.mono ?_; rintro en wz ⟨rfl, rfl⟩))
  have hbe : (sbytes s == sbytes s) = true := by simp
  have SL_11 : Hid (Sl rpU8 wy D A l.length c l) := keepS SL_10.out HBY2.out
  have b3_11 : Hid (Blk wy ga 24 (sV s)) := keepB b3_10.out HBY2.out
  have b5_11 : Hid (Blk wy (ga + 1) 37 (fV ((0 : Int), (0 : Int)))) := keepB b5_10.out HBY2.out
  have b6_11 : Hid (Blk wy gb 24 (sV ((0 : Nat), (0 : Nat), (0 : Nat)))) := keepB b6_10.out HBY2.out
  have b7_11 : Hid (Blk wy (gb + 1) 37 (fV ((9 : Int), (q : Int)))) := keepB b7_10.out HBY2.out
  have b8_11 : Hid (Blk wy gc 45 (rdV A l.length c q ((0 : Int), (0 : Int)))) := keepB b8_10.out HBY2.out
  have b9_11 : Hid (Blk wy (gc + 1) 24 (sV s)) := keepB b9_10.out HBY2.out
  have RD_11 : Hid (Rd wy D gr l q ((0 : Int), (0 : Int))) := keepR RD_10.out HBY2.out
  have b11_11 : Hid (Blk wy gd 24 (sV s)) := keepB b11_10.out HBY2.out
  have BB_11 : Hid (Below w.heap.size w wy) := stepB BB_10.out HBY2.out
  clear z_b30_10 z_b31_10 z_b32_10 z_b90_10 z_b91_10 z_b92_10 z_b50_10 z_b51_10 z_b81_10 z_b82_10 z_b83_10
  clear HBY2 HSC hcut
  have z_b80_11 := (show Blk wy gc 45 (rdV A l.length c q ((0 : Int), (0 : Int))) from b8_11.out).cell 0
  have z_b81_11 := (show Blk wy gc 45 (rdV A l.length c q ((0 : Int), (0 : Int))) from b8_11.out).cell 1
  have z_b82_11 := (show Blk wy gc 45 (rdV A l.length c q ((0 : Int), (0 : Int))) from b8_11.out).cell 2
  have z_b83_11 := (show Blk wy gc 45 (rdV A l.length c q ((0 : Int), (0 : Int))) from b8_11.out).cell 3
  go_wp2_with fail
  refine (HEND.out _).mono ?_; rintro en w12 ⟨rfl, hb⟩
  have SL_12 : Hid (Sl rpU8 w12 D A l.length c l) := keepS SL_11.out hb
  have b3_12 : Hid (Blk w12 ga 24 (sV s)) := keepB b3_11.out hb
  have b5_12 : Hid (Blk w12 (ga + 1) 37 (fV ((0 : Int), (0 : Int)))) := keepB b5_11.out hb
  have b6_12 : Hid (Blk w12 gb 24 (sV ((0 : Nat), (0 : Nat), (0 : Nat)))) := keepB b6_11.out hb
  have b7_12 : Hid (Blk w12 (gb + 1) 37 (fV ((9 : Int), (q : Int)))) := keepB b7_11.out hb
  have b8_12 : Hid (Blk w12 gc 45 (rdV A l.length c q ((0 : Int), (0 : Int)))) := keepB b8_11.out hb
  have b9_12 : Hid (Blk w12 (gc + 1) 24 (sV s)) := keepB b9_11.out hb
  have RD_12 : Hid (Rd w12 D gr l q ((0 : Int), (0 : Int))) := keepR RD_11.out hb
  have b11_12 : Hid (Blk w12 gd 24 (sV s)) := keepB b11_11.out hb
  have BB_12 : Hid (Below w.heap.size w w12) := stepB BB_11.out hb
  clear z_b80_11 z_b81_11 z_b82_11 z_b83_11
  clear hb
  have z_b60_12 := (show Blk w12 gb 24 (sV ((0 : Nat), (0 : Nat), (0 : Nat))) from b6_12.out).cell 0
  have z_b61_12 := (show Blk w12 gb 24 (sV ((0 : Nat), (0 : Nat), (0 : Nat))) from b6_12.out).cell 1
  have z_b62_12 := (show Blk w12 gb 24 (sV ((0 : Nat), (0 : Nat), (0 : Nat))) from b6_12.out).cell 2
  have z_b70_12 := (show Blk w12 (gb + 1) 37 (fV ((9 : Int), (q : Int))) from b7_12.out).cell 0
  have z_b71_12 := (show Blk w12 (gb + 1) 37 (fV ((9 : Int), (q : Int))) from b7_12.out).cell 1
  have lu_b6_12 := (show Blk w12 gb 24 (sV ((0 : Nat), (0 : Nat), (0 : Nat))) from b6_12.out).lt
  have lu_b7_12 := (show Blk w12 (gb + 1) 37 (fV ((9 : Int), (q : Int))) from b7_12.out).lt
  go_wp2_with fail
  have hb : Below w12.heap.size w12 (w12.alloc (.cells (rdV A l.length c q ((9 : Int), (q : Int))) 45)) := below1 _ (.cells (rdV A l.length c q ((9 : Int), (q : Int))) 45)
  have SL_13 : Hid (Sl rpU8 (w12.alloc (.cells (rdV A l.length c q ((9 : Int), (q : Int))) 45)) D A l.length c l) := keepS SL_12.out hb
  have b3_13 : Hid (Blk (w12.alloc (.cells (rdV A l.length c q ((9 : Int), (q : Int))) 45)) ga 24 (sV s)) := keepB b3_12.out hb
  have b5_13 : Hid (Blk (w12.alloc (.cells (rdV A l.length c q ((9 : Int), (q : Int))) 45)) (ga + 1) 37 (fV ((0 : Int), (0 : Int)))) := keepB b5_12.out hb
  have b6_13 : Hid (Blk (w12.alloc (.cells (rdV A l.length c q ((9 : Int), (q : Int))) 45)) gb 24 (sV ((0 : Nat), (0 : Nat), (0 : Nat)))) := keepB b6_12.out hb
  have b7_13 : Hid (Blk (w12.alloc (.cells (rdV A l.length c q ((9 : Int), (q : Int))) 45)) (gb + 1) 37 (fV ((9 : Int), (q : Int)))) := keepB b7_12.out hb
  have b8_13 : Hid (Blk (w12.alloc (.cells (rdV A l.length c q ((9 : Int), (q : Int))) 45)) gc 45 (rdV A l.length c q ((0 : Int), (0 : Int)))) := keepB b8_12.out hb
  have b9_13 : Hid (Blk (w12.alloc (.cells (rdV A l.length c q ((9 : Int), (q : Int))) 45)) (gc + 1) 24 (sV s)) := keepB b9_12.out hb
  have RD_13 : Hid (Rd (w12.alloc (.cells (rdV A l.length c q ((9 : Int), (q : Int))) 45)) D gr l q ((0 : Int), (0 : Int))) := keepR RD_12.out hb
  have b11_13 : Hid (Blk (w12.alloc (.cells (rdV A l.length c q ((9 : Int), (q : Int))) 45)) gd 24 (sV s)) := keepB b11_12.out hb
  have BB_13 : Hid (Below w.heap.size w (w12.alloc (.cells (rdV A l.length c q ((9 : Int), (q : Int))) 45))) := stepB BB_12.out hb
  have sz_12 := BB_12.out.size
  have b12_13 : Hid (Blk (w12.alloc (.cells (rdV A l.length c q ((9 : Int), (q : Int))) 45)) w12.heap.size 45 (rdV A l.length c q ((9 : Int), (q : Int)))) := blk11 _ _ _
  clear hb
  generalize hge : w12.heap.size = ge at *
  generalize World.alloc w12 _ = w13 at *
  clear z_b60_12 z_b61_12 z_b62_12 z_b70_12 z_b71_12 lu_b6_12 lu_b7_12
  refine (HLV.out _).mono ?_; rintro en w14 ⟨rfl, hb⟩
  have SL_14 : Hid (Sl rpU8 w14 D A l.length c l) := keepS SL_13.out hb
  have b3_14 : Hid (Blk w14 ga 24 (sV s)) := keepB b3_13.out hb
  have b5_14 : Hid (Blk w14 (ga + 1) 37 (fV ((0 : Int), (0 : Int)))) := keepB b5_13.out hb
  have b6_14 : Hid (Blk w14 gb 24 (sV ((0 : Nat), (0 : Nat), (0 : Nat)))) := keepB b6_13.out hb
  have b7_14 : Hid (Blk w14 (gb + 1) 37 (fV ((9 : Int), (q : Int)))) := keepB b7_13.out hb
  have b8_14 : Hid (Blk w14 gc 45 (rdV A l.length c q ((0 : Int), (0 : Int)))) := keepB b8_13.out hb
  have b9_14 : Hid (Blk w14 (gc + 1) 24 (sV s)) := keepB b9_13.out hb
  have RD_14 : Hid (Rd w14 D gr l q ((0 : Int), (0 : Int))) := keepR RD_13.out hb
  have b11_14 : Hid (Blk w14 gd 24 (sV s)) := keepB b11_13.out hb
  have b12_14 : Hid (Blk w14 ge 45 (rdV A l.length c q ((9 : Int), (q : Int)))) := keepB b12_13.out hb
  have BB_14 : Hid (Below w.heap.size w w14) := stepB BB_13.out hb
  clear hb
  go_wp2_with fail
  go_ret
  exact ⟨rfl, BB_14.out⟩
set_option maxRecDepth 100000 in
set_option maxHeartbeats 4000000 in
theorem sreads_whole {s : Sea} {q : Nat} {F : Flt} {D : Dom} {A : Option Addr} {n c : Nat} {l : List UInt8} {w : World} (h : rpU8.sl w D A n c l) (hD : ∀ k, D k → k < w.heap.size) (hn : n ≤ 300) (hF : q = l.length) (hs : sealF l 0 (0, 0) = (s, q, (0, 0))) :
    Calls Try.prog 4 #[.slice A n c] w fun e w' => e = .returned (.bool true) ∧ Below w.heap.size w w' := by
  obtain ⟨hlen, hnc, hcm⟩ := Rp.sl_len h
  unfold maxLen at hcm
  subst hlen
  have hl : l.length ≤ 1000000000 := by omega
  have hqle : q ≤ l.length := by have := sealF_place (l := l) (p := 0) (f := (0, 0)) (Nat.zero_le _); rw [hs] at this; exact this
  have e1 : endF l.length q (0, 0) = (0, 0) := by
    unfold endF
    rw [if_neg (by omega)]
  have e2 : gotS s ((0 : Int), (0 : Int)) = s := if_pos rfl
  have e3 : gotN q (0, 0) = q := if_pos rfl
  have hinv := sealF_inv (l := l) (p := 0) (f := (0, 0)) (by rw [hs])
  rw [hs] at hinv
  obtain ⟨hok, hq, _, hst⟩ := hinv
  rw [Nat.zero_add] at hq
  have htk : l.take q = sbytes s := by
    have := hst.eq0 (by rw [← hq]; exact hqle)
    rw [← hq] at this; exact this
  have HBY : Hid (∀ w : World, Calls Try.prog 17 #[.agg (sV s)] w fun e w' => ∃ A n c, e = .returned (.slice A n c) ∧ w'.ownsRow w.heap.size 5 1 (.slice A n c) n ((sbytes s).map bv) ∧ Below w.heap.size w w') := fun w => rsbytes_any s (seaOk_lt hok) w
  have HTK := Lib.hid htk
  clear hok hq hst htk
  have HGET : Hid (∀ w', Sl rpU8 w' D A l.length c l → Calls Try.prog 15 #[.slice A l.length c] w' fun e w'' => e = .returned (.tuple #[.agg (sV s), .int .i64 ((q : Int)), .agg (fV ((0 : Int), (0 : Int)))]) ∧ Below w'.heap.size w' w'') := fun w' h => by
    have := sget_any h.1 h.2 hl
    rw [hs] at this
    simp only at this
    rw [e3] at this
    exact this
  have HDEC : Hid (∀ w', Sl rpU8 w' D A l.length c l → Calls Try.prog 16 #[.slice A l.length c] w' fun e w'' => e = .returned (.tuple #[.agg (sV s), .agg (fV ((0 : Int), (0 : Int)))]) ∧ Below w'.heap.size w' w'') := fun w' h => by
    have := sdecode_any h.1 h.2 hl
    rw [hs] at this
    simp only at this
    rw [e1, e2] at this
    exact this
  have HREF : Hid (∀ w', Sl rpU8 w' D A l.length c l → Calls Try.prog 18 #[.agg (rdV A l.length c ((0 : Nat) : Int) (0, 0))] w' fun e w'' => e = .returned (.tuple #[.agg (rdV A l.length c q ((0 : Int), (0 : Int))), .agg (sV s)]) ∧ Below w'.heap.size w' w'') := fun w' h => by
    have := rsread_any h.1 h.2 OkF.nil (Nat.zero_le _) hl
    rw [hs] at this
    exact this
  have HRD : Hid (∀ (w : World) (g : Nat), Rd w D g l 0 (0, 0) → Calls Try.prog 20 #[.pointer (some ⟨g, 0, none⟩)] w fun e w' => e = .returned (.agg (sV s)) ∧ Rd w' D g l q ((0 : Int), (0 : Int)) ∧ Chg (one g) w w') := fun w g h => by
    have := sread_at h OkF.nil hl
    rw [hs] at this
    exact this
  have HEND : Hid (∀ w' : World, Calls Try.prog 22 #[.agg (rdV A l.length c q ((0 : Int), (0 : Int)))] w' fun e w'' => e = .returned (.agg (rdV A l.length c q ((0 : Int), (0 : Int)))) ∧ Below w'.heap.size w' w'') := fun w' => by
    have := rend_any A l.length c q ((0 : Int), (0 : Int)) w' hqle hl
    rw [e1] at this
    exact this
  have HLV : Hid (∀ w : World, Calls Try.prog 7 #[] w fun e w' => e = .returned (.bool true) ∧ Below w.heap.size w w') := slive_any
  have hd300 : decide ((300 : Int) < (l.length : Int)) = false := by simp; omega
  have SL_0 : Hid (Sl rpU8 w D A l.length c l) := ⟨h, hD⟩
  have BB_0 : Hid (Below w.heap.size w w) := Below.refl _ _
  have HQ := Lib.hid hqle
  clear h hD hs hF e1 e2 e3
  go_enter Try.func4, Try.ntmps4
  go_wp2_with fail
  refine (HGET.out _ SL_0.out).mono ?_; rintro en w1 ⟨rfl, hb⟩
  have SL_1 : Hid (Sl rpU8 w1 D A l.length c l) := keepS SL_0.out hb
  have BB_1 : Hid (Below w.heap.size w w1) := stepB BB_0.out hb
  clear hb
  go_wp2_with fail
  have hb : Below w1.heap.size w1 ((w1.alloc (.cells (sV s) 24)).alloc (.cells (fV ((0 : Int), (0 : Int))) 37)) := below2 _ (.cells (sV s) 24) (.cells (fV ((0 : Int), (0 : Int))) 37)
  have SL_2 : Hid (Sl rpU8 ((w1.alloc (.cells (sV s) 24)).alloc (.cells (fV ((0 : Int), (0 : Int))) 37)) D A l.length c l) := keepS SL_1.out hb
  have BB_2 : Hid (Below w.heap.size w ((w1.alloc (.cells (sV s) 24)).alloc (.cells (fV ((0 : Int), (0 : Int))) 37))) := stepB BB_1.out hb
  have sz_1 := BB_1.out.size
  have b3_2 : Hid (Blk ((w1.alloc (.cells (sV s) 24)).alloc (.cells (fV ((0 : Int), (0 : Int))) 37)) w1.heap.size 24 (sV s)) := blk21 _ _ _ _ _
  have b5_2 : Hid (Blk ((w1.alloc (.cells (sV s) 24)).alloc (.cells (fV ((0 : Int), (0 : Int))) 37)) (w1.heap.size + 1) 37 (fV ((0 : Int), (0 : Int)))) := blk22 _ _ _ _ _
  clear hb
  generalize hga : w1.heap.size = ga at *
  generalize World.alloc (World.alloc w1 _) _ = w2 at *
  refine (HDEC.out _ SL_2.out).mono ?_; rintro en w3 ⟨rfl, hb⟩
  have SL_3 : Hid (Sl rpU8 w3 D A l.length c l) := keepS SL_2.out hb
  have b3_3 : Hid (Blk w3 ga 24 (sV s)) := keepB b3_2.out hb
  have b5_3 : Hid (Blk w3 (ga + 1) 37 (fV ((0 : Int), (0 : Int)))) := keepB b5_2.out hb
  have BB_3 : Hid (Below w.heap.size w w3) := stepB BB_2.out hb
  clear hb
  go_wp2_with fail
  have lt_b5_3 := (show Blk w3 (ga + 1) 37 (fV ((0 : Int), (0 : Int))) from b5_3.out).lt
  have hb : Below w3.heap.size w3 ((w3.alloc (.cells (sV s) 24)).alloc (.cells (fV ((0 : Int), (0 : Int))) 37)) := below2 _ (.cells (sV s) 24) (.cells (fV ((0 : Int), (0 : Int))) 37)
  have SL_4 : Hid (Sl rpU8 ((w3.alloc (.cells (sV s) 24)).alloc (.cells (fV ((0 : Int), (0 : Int))) 37)) D A l.length c l) := keepS SL_3.out hb
  have b3_4 : Hid (Blk ((w3.alloc (.cells (sV s) 24)).alloc (.cells (fV ((0 : Int), (0 : Int))) 37)) ga 24 (sV s)) := keepB b3_3.out hb
  have b5_4 : Hid (Blk ((w3.alloc (.cells (sV s) 24)).alloc (.cells (fV ((0 : Int), (0 : Int))) 37)) (ga + 1) 37 (fV ((0 : Int), (0 : Int)))) := keepB b5_3.out hb
  have BB_4 : Hid (Below w.heap.size w ((w3.alloc (.cells (sV s) 24)).alloc (.cells (fV ((0 : Int), (0 : Int))) 37))) := stepB BB_3.out hb
  have sz_3 := BB_3.out.size
  have b6_4 : Hid (Blk ((w3.alloc (.cells (sV s) 24)).alloc (.cells (fV ((0 : Int), (0 : Int))) 37)) w3.heap.size 24 (sV s)) := blk21 _ _ _ _ _
  have b7_4 : Hid (Blk ((w3.alloc (.cells (sV s) 24)).alloc (.cells (fV ((0 : Int), (0 : Int))) 37)) (w3.heap.size + 1) 37 (fV ((0 : Int), (0 : Int)))) := blk22 _ _ _ _ _
  clear hb
  generalize hgb : w3.heap.size = gb at *
  generalize World.alloc (World.alloc w3 _) _ = w4 at *
  refine (HREF.out _ SL_4.out).mono ?_; rintro en w5 ⟨rfl, hb⟩
  have SL_5 : Hid (Sl rpU8 w5 D A l.length c l) := keepS SL_4.out hb
  have b3_5 : Hid (Blk w5 ga 24 (sV s)) := keepB b3_4.out hb
  have b5_5 : Hid (Blk w5 (ga + 1) 37 (fV ((0 : Int), (0 : Int)))) := keepB b5_4.out hb
  have b6_5 : Hid (Blk w5 gb 24 (sV s)) := keepB b6_4.out hb
  have b7_5 : Hid (Blk w5 (gb + 1) 37 (fV ((0 : Int), (0 : Int)))) := keepB b7_4.out hb
  have BB_5 : Hid (Below w.heap.size w w5) := stepB BB_4.out hb
  clear hb
  go_wp2_with fail
  have lt_b7_5 := (show Blk w5 (gb + 1) 37 (fV ((0 : Int), (0 : Int))) from b7_5.out).lt
  have hb : Below w5.heap.size w5 ((w5.alloc (.cells (rdV A l.length c q ((0 : Int), (0 : Int))) 45)).alloc (.cells (sV s) 24)) := below2 _ (.cells (rdV A l.length c q ((0 : Int), (0 : Int))) 45) (.cells (sV s) 24)
  have SL_6 : Hid (Sl rpU8 ((w5.alloc (.cells (rdV A l.length c q ((0 : Int), (0 : Int))) 45)).alloc (.cells (sV s) 24)) D A l.length c l) := keepS SL_5.out hb
  have b3_6 : Hid (Blk ((w5.alloc (.cells (rdV A l.length c q ((0 : Int), (0 : Int))) 45)).alloc (.cells (sV s) 24)) ga 24 (sV s)) := keepB b3_5.out hb
  have b5_6 : Hid (Blk ((w5.alloc (.cells (rdV A l.length c q ((0 : Int), (0 : Int))) 45)).alloc (.cells (sV s) 24)) (ga + 1) 37 (fV ((0 : Int), (0 : Int)))) := keepB b5_5.out hb
  have b6_6 : Hid (Blk ((w5.alloc (.cells (rdV A l.length c q ((0 : Int), (0 : Int))) 45)).alloc (.cells (sV s) 24)) gb 24 (sV s)) := keepB b6_5.out hb
  have b7_6 : Hid (Blk ((w5.alloc (.cells (rdV A l.length c q ((0 : Int), (0 : Int))) 45)).alloc (.cells (sV s) 24)) (gb + 1) 37 (fV ((0 : Int), (0 : Int)))) := keepB b7_5.out hb
  have BB_6 : Hid (Below w.heap.size w ((w5.alloc (.cells (rdV A l.length c q ((0 : Int), (0 : Int))) 45)).alloc (.cells (sV s) 24))) := stepB BB_5.out hb
  have sz_5 := BB_5.out.size
  have b8_6 : Hid (Blk ((w5.alloc (.cells (rdV A l.length c q ((0 : Int), (0 : Int))) 45)).alloc (.cells (sV s) 24)) w5.heap.size 45 (rdV A l.length c q ((0 : Int), (0 : Int)))) := blk21 _ _ _ _ _
  have b9_6 : Hid (Blk ((w5.alloc (.cells (rdV A l.length c q ((0 : Int), (0 : Int))) 45)).alloc (.cells (sV s) 24)) (w5.heap.size + 1) 24 (sV s)) := blk22 _ _ _ _ _
  clear hb
  generalize hgc : w5.heap.size = gc at *
  generalize World.alloc (World.alloc w5 _) _ = w6 at *
  refine (cnew_any (SL_6.out).1 (SL_6.out).2).mono ?_; rintro en w7 ⟨rfl, hr, hb⟩
  have ltg := (show Blk w6 (gc + 1) 24 (sV s) from b9_6.out).lt
  obtain ⟨gr, hgr⟩ : ∃ gr, gr = w6.heap.size := ⟨_, rfl⟩
  have szr := BB_6.out.size
  rw [← hgr] at hr ltg szr
  have SL_7 : Hid (Sl rpU8 w7 D A l.length c l) := keepS SL_6.out hb
  have b3_7 : Hid (Blk w7 ga 24 (sV s)) := keepB b3_6.out hb
  have b5_7 : Hid (Blk w7 (ga + 1) 37 (fV ((0 : Int), (0 : Int)))) := keepB b5_6.out hb
  have b6_7 : Hid (Blk w7 gb 24 (sV s)) := keepB b6_6.out hb
  have b7_7 : Hid (Blk w7 (gb + 1) 37 (fV ((0 : Int), (0 : Int)))) := keepB b7_6.out hb
  have b8_7 : Hid (Blk w7 gc 45 (rdV A l.length c q ((0 : Int), (0 : Int)))) := keepB b8_6.out hb
  have b9_7 : Hid (Blk w7 (gc + 1) 24 (sV s)) := keepB b9_6.out hb
  have BB_7 : Hid (Below w.heap.size w w7) := stepB BB_6.out hb
  have RD_7 : Hid (Rd w7 D gr l 0 (0, 0)) := hr
  clear hb
  clear hr
  rw [← hgr]
  clear hgr
  go_wp2_with fail
  refine (HRD.out _ _ RD_7.out).mono ?_; rintro en w8 ⟨rfl, hr, hc⟩
  have SL_8 : Hid (Sl rpU8 w8 D A l.length c l) := chS SL_7.out hc (fun k hk e => by have e : k = gr := e; have := (SL_0.out).2 k hk; omega)
  have b3_8 : Hid (Blk w8 ga 24 (sV s)) := chB b3_7.out hc (fun e => by have e : _ = gr := e; omega)
  have b5_8 : Hid (Blk w8 (ga + 1) 37 (fV ((0 : Int), (0 : Int)))) := chB b5_7.out hc (fun e => by have e : _ = gr := e; omega)
  have b6_8 : Hid (Blk w8 gb 24 (sV s)) := chB b6_7.out hc (fun e => by have e : _ = gr := e; omega)
  have b7_8 : Hid (Blk w8 (gb + 1) 37 (fV ((0 : Int), (0 : Int)))) := chB b7_7.out hc (fun e => by have e : _ = gr := e; omega)
  have b8_8 : Hid (Blk w8 gc 45 (rdV A l.length c q ((0 : Int), (0 : Int)))) := chB b8_7.out hc (fun e => by have e : _ = gr := e; omega)
  have b9_8 : Hid (Blk w8 (gc + 1) 24 (sV s)) := chB b9_7.out hc (fun e => by have e : _ = gr := e; omega)
  have BB_8 : Hid (Below w.heap.size w w8) := chBase BB_7.out hc (fun k hk => by have e : k = gr := hk; omega)
  have RD_8 : Hid (Rd w8 D gr l q ((0 : Int), (0 : Int))) := hr
  clear hr hc
  go_wp2_with fail
  have hb : Below w8.heap.size w8 (w8.alloc (.cells (sV s) 24)) := below1 _ (.cells (sV s) 24)
  have SL_9 : Hid (Sl rpU8 (w8.alloc (.cells (sV s) 24)) D A l.length c l) := keepS SL_8.out hb
  have b3_9 : Hid (Blk (w8.alloc (.cells (sV s) 24)) ga 24 (sV s)) := keepB b3_8.out hb
  have b5_9 : Hid (Blk (w8.alloc (.cells (sV s) 24)) (ga + 1) 37 (fV ((0 : Int), (0 : Int)))) := keepB b5_8.out hb
  have b6_9 : Hid (Blk (w8.alloc (.cells (sV s) 24)) gb 24 (sV s)) := keepB b6_8.out hb
  have b7_9 : Hid (Blk (w8.alloc (.cells (sV s) 24)) (gb + 1) 37 (fV ((0 : Int), (0 : Int)))) := keepB b7_8.out hb
  have b8_9 : Hid (Blk (w8.alloc (.cells (sV s) 24)) gc 45 (rdV A l.length c q ((0 : Int), (0 : Int)))) := keepB b8_8.out hb
  have b9_9 : Hid (Blk (w8.alloc (.cells (sV s) 24)) (gc + 1) 24 (sV s)) := keepB b9_8.out hb
  have RD_9 : Hid (Rd (w8.alloc (.cells (sV s) 24)) D gr l q ((0 : Int), (0 : Int))) := keepR RD_8.out hb
  have BB_9 : Hid (Below w.heap.size w (w8.alloc (.cells (sV s) 24))) := stepB BB_8.out hb
  have sz_8 := BB_8.out.size
  have b11_9 : Hid (Blk (w8.alloc (.cells (sV s) 24)) w8.heap.size 24 (sV s)) := blk11 _ _ _
  clear hb
  generalize hgd : w8.heap.size = gd at *
  generalize World.alloc w8 _ = w9 at *
  have zq_b110_9 : ∀ x : Gr w9.heap.size w9, x.val.cell? ⟨gd, 0, none⟩ = _ := fun x => (keepB (show Blk w9 gd 24 (sV s) from b11_9.out) x.is).cell 0
  have zq_b111_9 : ∀ x : Gr w9.heap.size w9, x.val.cell? ⟨gd, 1, none⟩ = _ := fun x => (keepB (show Blk w9 gd 24 (sV s) from b11_9.out) x.is).cell 1
  have zq_b112_9 : ∀ x : Gr w9.heap.size w9, x.val.cell? ⟨gd, 2, none⟩ = _ := fun x => (keepB (show Blk w9 gd 24 (sV s) from b11_9.out) x.is).cell 2
  have zq_b90_9 : ∀ x : Gr w9.heap.size w9, x.val.cell? ⟨(gc + 1), 0, none⟩ = _ := fun x => (keepB (show Blk w9 (gc + 1) 24 (sV s) from b9_9.out) x.is).cell 0
  have zq_b91_9 : ∀ x : Gr w9.heap.size w9, x.val.cell? ⟨(gc + 1), 1, none⟩ = _ := fun x => (keepB (show Blk w9 (gc + 1) 24 (sV s) from b9_9.out) x.is).cell 1
  have zq_b92_9 : ∀ x : Gr w9.heap.size w9, x.val.cell? ⟨(gc + 1), 2, none⟩ = _ := fun x => (keepB (show Blk w9 (gc + 1) 24 (sV s) from b9_9.out) x.is).cell 2
  have zq_b82_9 : ∀ x : Gr w9.heap.size w9, x.val.cell? ⟨gc, 2, none⟩ = _ := fun x => (keepB (show Blk w9 gc 45 (rdV A l.length c q ((0 : Int), (0 : Int))) from b8_9.out) x.is).cell 2
  have zq_b83_9 : ∀ x : Gr w9.heap.size w9, x.val.cell? ⟨gc, 3, none⟩ = _ := fun x => (keepB (show Blk w9 gc 45 (rdV A l.length c q ((0 : Int), (0 : Int))) from b8_9.out) x.is).cell 3
  have RQ : Hid (∀ x : Gr w9.heap.size w9, Rd x.val D gr l q ((0 : Int), (0 : Int))) := fun x => keepR (show Rd w9 D gr l q ((0 : Int), (0 : Int)) from RD_9.out) x.is
  refine wp_region_grow (by kernel_rfl) (by kernel_rfl) w9.heap.size ?_
  repeat (first | go_big_quiet_step ((go_at_call 21; exact Gr.call _ (Nat.le_refl _) (cfault_at (RQ.out _)))) | quiet_step ((go_at_call 21; exact Gr.call _ (Nat.le_refl _) (cfault_at (RQ.out _)))))
  refine wpQuiet_nil ?_
  rintro w10 ⟨⟨_, hb⟩, rfl⟩
  clear zq_b110_9 zq_b111_9 zq_b112_9 zq_b90_9 zq_b91_9 zq_b92_9 zq_b82_9 zq_b83_9 RQ
  have SL_10 : Hid (Sl rpU8 w10 D A l.length c l) := keepS SL_9.out hb
  have b3_10 : Hid (Blk w10 ga 24 (sV s)) := keepB b3_9.out hb
  have b5_10 : Hid (Blk w10 (ga + 1) 37 (fV ((0 : Int), (0 : Int)))) := keepB b5_9.out hb
  have b6_10 : Hid (Blk w10 gb 24 (sV s)) := keepB b6_9.out hb
  have b7_10 : Hid (Blk w10 (gb + 1) 37 (fV ((0 : Int), (0 : Int)))) := keepB b7_9.out hb
  have b8_10 : Hid (Blk w10 gc 45 (rdV A l.length c q ((0 : Int), (0 : Int)))) := keepB b8_9.out hb
  have b9_10 : Hid (Blk w10 (gc + 1) 24 (sV s)) := keepB b9_9.out hb
  have RD_10 : Hid (Rd w10 D gr l q ((0 : Int), (0 : Int))) := keepR RD_9.out hb
  have b11_10 : Hid (Blk w10 gd 24 (sV s)) := keepB b11_9.out hb
  have BB_10 : Hid (Below w.heap.size w w10) := stepB BB_9.out hb
  clear hb
  have z_b30_10 := (show Blk w10 ga 24 (sV s) from b3_10.out).cell 0
  have z_b31_10 := (show Blk w10 ga 24 (sV s) from b3_10.out).cell 1
  have z_b32_10 := (show Blk w10 ga 24 (sV s) from b3_10.out).cell 2
  have z_b90_10 := (show Blk w10 (gc + 1) 24 (sV s) from b9_10.out).cell 0
  have z_b91_10 := (show Blk w10 (gc + 1) 24 (sV s) from b9_10.out).cell 1
  have z_b92_10 := (show Blk w10 (gc + 1) 24 (sV s) from b9_10.out).cell 2
  have z_b50_10 := (show Blk w10 (ga + 1) 37 (fV ((0 : Int), (0 : Int))) from b5_10.out).cell 0
  have z_b51_10 := (show Blk w10 (ga + 1) 37 (fV ((0 : Int), (0 : Int))) from b5_10.out).cell 1
  have z_b81_10 := (show Blk w10 gc 45 (rdV A l.length c q ((0 : Int), (0 : Int))) from b8_10.out).cell 1
  have z_b82_10 := (show Blk w10 gc 45 (rdV A l.length c q ((0 : Int), (0 : Int))) from b8_10.out).cell 2
  have z_b83_10 := (show Blk w10 gc 45 (rdV A l.length c q ((0 : Int), (0 : Int))) from b8_10.out).cell 3
  go_wp2_with fail
  obtain ⟨Ac, hcut, hsc⟩ := run_cut_h elemU (SL_10.out).1 rfl (q : Int) (by omega) (by omega)
  rw [Int.toNat_natCast] at hcut hsc
  have HSC : Hid (Sl rpU8 w10 D Ac q c (l.take q)) := ⟨hsc, (SL_10.out).2⟩
  clear hsc
  go_region_held3 (fun w' => w'.cell? ⟨gc, 2, none⟩ = some (.int .i64 0) ∧ w'.cell? ⟨ga, 0, none⟩ = some (.int .u64 (s.1 : Int)) ∧ w'.cell? ⟨ga, 1, none⟩ = some (.int .u64 (s.2.1 : Int)) ∧ w'.cell? ⟨ga, 2, none⟩ = some (.int .u64 (s.2.2 : Int)))
    (first | go_keep | exact ⟨k0, k1, k2, k3⟩ | exact ⟨z_b82_10, z_b30_10, z_b31_10, z_b32_10⟩)
    (first
      | (go_at_call 17; refine (HBY.out _).mono ?_; rintro en wy ⟨Ay, ny, cy, rfl, ho, hby⟩; have hb : Below w10.heap.size w10 wy := ⟨hby.os, hby.tape, hby.output, hby.size, hby.block⟩; have k0 := (keepB (show Blk w10 gc 45 (rdV A l.length c q ((0 : Int), (0 : Int))) from b8_10.out) hb).cell 2; have k1 := (keepB (show Blk w10 ga 24 (sV s) from b3_10.out) hb).cell 0; have k2 := (keepB (show Blk w10 ga 24 (sV s) from b3_10.out) hb).cell 1; have k3 := (keepB (show Blk w10 ga 24 (sV s) from b3_10.out) hb).cell 2; have hsm := same_any _ _ _ _ _ _ _ _ _ _ wy (own_bytes ho) (keepS HSC.out hb).1; rw [HTK.out] at hsm; have HSM := Lib.hid hsm; have HBY2 := Lib.hid hb; clear hby hb ho hsm)
      | (go_at_call 12; refine HSM.out.mono ?_; rintro en wz ⟨rfl, rfl⟩))
  have hbe : (sbytes s == sbytes s) = true := by simp
  have SL_11 : Hid (Sl rpU8 wy D A l.length c l) := keepS SL_10.out HBY2.out
  have b3_11 : Hid (Blk wy ga 24 (sV s)) := keepB b3_10.out HBY2.out
  have b5_11 : Hid (Blk wy (ga + 1) 37 (fV ((0 : Int), (0 : Int)))) := keepB b5_10.out HBY2.out
  have b6_11 : Hid (Blk wy gb 24 (sV s)) := keepB b6_10.out HBY2.out
  have b7_11 : Hid (Blk wy (gb + 1) 37 (fV ((0 : Int), (0 : Int)))) := keepB b7_10.out HBY2.out
  have b8_11 : Hid (Blk wy gc 45 (rdV A l.length c q ((0 : Int), (0 : Int)))) := keepB b8_10.out HBY2.out
  have b9_11 : Hid (Blk wy (gc + 1) 24 (sV s)) := keepB b9_10.out HBY2.out
  have RD_11 : Hid (Rd wy D gr l q ((0 : Int), (0 : Int))) := keepR RD_10.out HBY2.out
  have b11_11 : Hid (Blk wy gd 24 (sV s)) := keepB b11_10.out HBY2.out
  have BB_11 : Hid (Below w.heap.size w wy) := stepB BB_10.out HBY2.out
  clear z_b30_10 z_b31_10 z_b32_10 z_b90_10 z_b91_10 z_b92_10 z_b50_10 z_b51_10 z_b81_10 z_b82_10 z_b83_10
  clear HBY2 HSC hcut
  have z_b80_11 := (show Blk wy gc 45 (rdV A l.length c q ((0 : Int), (0 : Int))) from b8_11.out).cell 0
  have z_b81_11 := (show Blk wy gc 45 (rdV A l.length c q ((0 : Int), (0 : Int))) from b8_11.out).cell 1
  have z_b82_11 := (show Blk wy gc 45 (rdV A l.length c q ((0 : Int), (0 : Int))) from b8_11.out).cell 2
  have z_b83_11 := (show Blk wy gc 45 (rdV A l.length c q ((0 : Int), (0 : Int))) from b8_11.out).cell 3
  go_wp2_with fail
  refine (HEND.out _).mono ?_; rintro en w12 ⟨rfl, hb⟩
  have SL_12 : Hid (Sl rpU8 w12 D A l.length c l) := keepS SL_11.out hb
  have b3_12 : Hid (Blk w12 ga 24 (sV s)) := keepB b3_11.out hb
  have b5_12 : Hid (Blk w12 (ga + 1) 37 (fV ((0 : Int), (0 : Int)))) := keepB b5_11.out hb
  have b6_12 : Hid (Blk w12 gb 24 (sV s)) := keepB b6_11.out hb
  have b7_12 : Hid (Blk w12 (gb + 1) 37 (fV ((0 : Int), (0 : Int)))) := keepB b7_11.out hb
  have b8_12 : Hid (Blk w12 gc 45 (rdV A l.length c q ((0 : Int), (0 : Int)))) := keepB b8_11.out hb
  have b9_12 : Hid (Blk w12 (gc + 1) 24 (sV s)) := keepB b9_11.out hb
  have RD_12 : Hid (Rd w12 D gr l q ((0 : Int), (0 : Int))) := keepR RD_11.out hb
  have b11_12 : Hid (Blk w12 gd 24 (sV s)) := keepB b11_11.out hb
  have BB_12 : Hid (Below w.heap.size w w12) := stepB BB_11.out hb
  clear z_b80_11 z_b81_11 z_b82_11 z_b83_11
  clear hb
  have z_b60_12 := (show Blk w12 gb 24 (sV s) from b6_12.out).cell 0
  have z_b61_12 := (show Blk w12 gb 24 (sV s) from b6_12.out).cell 1
  have z_b62_12 := (show Blk w12 gb 24 (sV s) from b6_12.out).cell 2
  have z_b70_12 := (show Blk w12 (gb + 1) 37 (fV ((0 : Int), (0 : Int))) from b7_12.out).cell 0
  have z_b71_12 := (show Blk w12 (gb + 1) 37 (fV ((0 : Int), (0 : Int))) from b7_12.out).cell 1
  have z_b90_12 := (show Blk w12 (gc + 1) 24 (sV s) from b9_12.out).cell 0
  have z_b91_12 := (show Blk w12 (gc + 1) 24 (sV s) from b9_12.out).cell 1
  have z_b92_12 := (show Blk w12 (gc + 1) 24 (sV s) from b9_12.out).cell 2
  have lu_b6_12 := (show Blk w12 gb 24 (sV s) from b6_12.out).lt
  have lu_b7_12 := (show Blk w12 (gb + 1) 37 (fV ((0 : Int), (0 : Int))) from b7_12.out).lt
  have lu_b9_12 := (show Blk w12 (gc + 1) 24 (sV s) from b9_12.out).lt
  go_wp2_with fail
  have hb : Below w12.heap.size w12 (w12.alloc (.cells (rdV A l.length c q ((0 : Int), (0 : Int))) 45)) := below1 _ (.cells (rdV A l.length c q ((0 : Int), (0 : Int))) 45)
  have SL_13 : Hid (Sl rpU8 (w12.alloc (.cells (rdV A l.length c q ((0 : Int), (0 : Int))) 45)) D A l.length c l) := keepS SL_12.out hb
  have b3_13 : Hid (Blk (w12.alloc (.cells (rdV A l.length c q ((0 : Int), (0 : Int))) 45)) ga 24 (sV s)) := keepB b3_12.out hb
  have b5_13 : Hid (Blk (w12.alloc (.cells (rdV A l.length c q ((0 : Int), (0 : Int))) 45)) (ga + 1) 37 (fV ((0 : Int), (0 : Int)))) := keepB b5_12.out hb
  have b6_13 : Hid (Blk (w12.alloc (.cells (rdV A l.length c q ((0 : Int), (0 : Int))) 45)) gb 24 (sV s)) := keepB b6_12.out hb
  have b7_13 : Hid (Blk (w12.alloc (.cells (rdV A l.length c q ((0 : Int), (0 : Int))) 45)) (gb + 1) 37 (fV ((0 : Int), (0 : Int)))) := keepB b7_12.out hb
  have b8_13 : Hid (Blk (w12.alloc (.cells (rdV A l.length c q ((0 : Int), (0 : Int))) 45)) gc 45 (rdV A l.length c q ((0 : Int), (0 : Int)))) := keepB b8_12.out hb
  have b9_13 : Hid (Blk (w12.alloc (.cells (rdV A l.length c q ((0 : Int), (0 : Int))) 45)) (gc + 1) 24 (sV s)) := keepB b9_12.out hb
  have RD_13 : Hid (Rd (w12.alloc (.cells (rdV A l.length c q ((0 : Int), (0 : Int))) 45)) D gr l q ((0 : Int), (0 : Int))) := keepR RD_12.out hb
  have b11_13 : Hid (Blk (w12.alloc (.cells (rdV A l.length c q ((0 : Int), (0 : Int))) 45)) gd 24 (sV s)) := keepB b11_12.out hb
  have BB_13 : Hid (Below w.heap.size w (w12.alloc (.cells (rdV A l.length c q ((0 : Int), (0 : Int))) 45))) := stepB BB_12.out hb
  have sz_12 := BB_12.out.size
  have b12_13 : Hid (Blk (w12.alloc (.cells (rdV A l.length c q ((0 : Int), (0 : Int))) 45)) w12.heap.size 45 (rdV A l.length c q ((0 : Int), (0 : Int)))) := blk11 _ _ _
  clear hb
  generalize hge : w12.heap.size = ge at *
  generalize World.alloc w12 _ = w13 at *
  clear z_b60_12 z_b61_12 z_b62_12 z_b70_12 z_b71_12 z_b90_12 z_b91_12 z_b92_12 lu_b6_12 lu_b7_12 lu_b9_12
  refine (HLV.out _).mono ?_; rintro en w14 ⟨rfl, hb⟩
  have SL_14 : Hid (Sl rpU8 w14 D A l.length c l) := keepS SL_13.out hb
  have b3_14 : Hid (Blk w14 ga 24 (sV s)) := keepB b3_13.out hb
  have b5_14 : Hid (Blk w14 (ga + 1) 37 (fV ((0 : Int), (0 : Int)))) := keepB b5_13.out hb
  have b6_14 : Hid (Blk w14 gb 24 (sV s)) := keepB b6_13.out hb
  have b7_14 : Hid (Blk w14 (gb + 1) 37 (fV ((0 : Int), (0 : Int)))) := keepB b7_13.out hb
  have b8_14 : Hid (Blk w14 gc 45 (rdV A l.length c q ((0 : Int), (0 : Int)))) := keepB b8_13.out hb
  have b9_14 : Hid (Blk w14 (gc + 1) 24 (sV s)) := keepB b9_13.out hb
  have RD_14 : Hid (Rd w14 D gr l q ((0 : Int), (0 : Int))) := keepR RD_13.out hb
  have b11_14 : Hid (Blk w14 gd 24 (sV s)) := keepB b11_13.out hb
  have b12_14 : Hid (Blk w14 ge 45 (rdV A l.length c q ((0 : Int), (0 : Int)))) := keepB b12_13.out hb
  have BB_14 : Hid (Below w.heap.size w w14) := stepB BB_13.out hb
  clear hb
  go_wp2_with fail
  go_ret
  exact ⟨rfl, BB_14.out⟩
theorem sreads_long {D : Dom} {A : Option Addr} {n c : Nat} {l : List UInt8} {w : World} (h : rpU8.sl w D A n c l) (hn : 300 < n) :
    Calls Try.prog 4 #[.slice A n c] w fun e w' => e = .returned (.bool true) ∧ Below w.heap.size w w' := by
  have hd : decide ((300 : Int) < (n : Int)) = true := by simp; omega
  have HLV := Lib.hid (slive_any w)
  clear h
  go_enter Try.func4, Try.ntmps4
  go_wp2_with fail
  refine HLV.out.mono ?_; rintro en w1 ⟨rfl, hb⟩
  go_wp2_with fail
  go_ret
  exact ⟨rfl, hb⟩
theorem sealReads_any (A : Option Addr) (n c : Nat) (l : List UInt8) (w : World) (h : rpU8.sl w (lt w.heap.size) A n c l) :
    Calls Try.prog 4 #[.slice A n c] w fun e w' => e = .returned (.bool true) ∧ Below w.heap.size w w' := by
  have hD : ∀ k, lt w.heap.size k → k < w.heap.size := fun k hk => hk
  by_cases hn : 300 < n
  · exact sreads_long h hn
  have hn' : n ≤ 300 := by omega
  have hok := sealF_ok (l := l) (p := 0) OkF.nil
  have hf0 := @sealF_fail0 l 0 (0, 0)
  have hq := sealF_place (l := l) (p := 0) (f := (0, 0)) (Nat.zero_le _)
  rcases hs : sealF l 0 (0, 0) with ⟨s, q, F⟩
  rw [hs] at hok hf0 hq
  simp only at hok hf0 hq
  by_cases hF : F.1 = 0
  · obtain rfl := hok.eq hF
    by_cases hql : q < l.length
    · exact sreads_rest (F := (0, 0)) h hD hn' hql hs
    · exact sreads_whole (F := (0, 0)) h hD hn' (by omega) hs
  · obtain rfl := hf0 hF
    exact sreads_bad (s := (0, 0, 0)) h hD hn' hF hs
end Go.Proofs.Ytkhomkklamegmaa
