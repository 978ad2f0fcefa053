/-
  The law of this claim, part 10 of its proof: the parts PReadsW.
-/
import Derived.Test.YtmdgmnaaopineaaQPR9
/- The walk of ProjReads. -/
namespace Go.Proofs.Ytmdgmnaaopineaa
open Go.ChangeShapes Go.WideShapes Go.ChangeAt Go.RowKit
set_option linter.unusedVariables false
theorem rpread_any {D : Dom} {A : Option Addr} {n c : Nat} {l : List UInt8} {p : Nat} {f : Flt} {w : World} (h : rpU8.sl w D A n c l) (hD : ∀ k, D k → k < w.heap.size) (hf : OkF f) (hp : p ≤ n) (hn : n ≤ 1000000000) :
    Calls Try.prog 58 #[.agg (rdV A n c p f)] w (RpIs w A n c (prjF l p f)) := by
  by_cases hy : (mostF l (mustF isEpoch l p f).2.1 (mustF isEpoch l p f).2.2 64).1 = 0
  · exact rpread_zero h hD hf hp hn hy
  · exact rpread_more h hD hf hp hn hy
theorem endF_bad {n p : Nat} {f : Flt} (h : f.1 ≠ 0) : endF n p f = f := by
  unfold endF failF
  split <;> first | rfl | rw [if_neg h]
section
variable {D : Dom} {A : Option Addr} {n c q e : Nat} {F1 F2 : Int} {st : List Stp} {l : List UInt8} {w : World}
set_option maxRecDepth 100000 in
set_option maxHeartbeats 4000000 in
theorem preads_bad (h : rpU8.sl w D A n c l) (hD : ∀ k, D k → k < w.heap.size) (hn : n ≤ 500) (hs : prjF l 0 (0, 0) = ((0, ([] : List Stp)), q, (F1, F2))) (hF : F1 ≠ 0) :
    Calls Try.prog 10 #[.slice A n c] w fun e w' => e = .returned (.bool true) ∧ Below w.heap.size w w' := by
  obtain ⟨hlen, hnc, hcm⟩ := Rp.sl_len h
  unfold maxLen at hcm
  subst hlen
  have hl : l.length ≤ 1000000000 := by omega
  have hqle : q ≤ l.length := by have := prjF_q (l := l) (p := 0) (f := (0, 0)) (Nat.zero_le _); rw [hs] at this; exact this
  have hgn : gotN q (F1, F2) = (0 : Int) := if_neg hF
  have hge : endF l.length q (F1, F2) = (F1, F2) := endF_bad hF
  have hgp : gotP (0, ([] : List Stp)) (F1, F2) = (0, ([] : List Stp)) := if_neg hF
  have HNEW : Hid (∀ w', Sl rpU8 w' D A l.length c l → Calls Try.prog 40 #[.slice A l.length c] w' fun e w'' => e = .returned (.pointer (some ⟨w'.heap.size, 0, none⟩)) ∧ Rd w'' D w'.heap.size l 0 (0, 0) ∧ Below w'.heap.size w' w'') := fun w' h => cnew_any h.1 h.2
  have HRD : Hid (∀ (w : World) (g : Nat), Rd w D g l 0 (0, 0) → Calls Try.prog 59 #[.pointer (some ⟨g, 0, none⟩)] w (PrIs w D g l ((0, ([] : List Stp)), q, (F1, F2)))) := fun w g h => by
    have := prread_any h OkF.nil hl
    rw [hs] at this
    exact this
  have HGET : Hid (∀ w', Sl rpU8 w' D A l.length c l → Calls Try.prog 57 #[.slice A l.length c] w' (GetIs w' (0, ([] : List Stp)) (0 : Int) (F1, F2))) := fun w' h => by
    have := prget_any h.1 h.2 hl
    rw [hs] at this
    simp only [hgn] at this
    exact this
  have HDEC : Hid (∀ w', Sl rpU8 w' D A l.length c l → Calls Try.prog 21 #[.slice A l.length c] w' (DecIs w' (0, ([] : List Stp)) (F1, F2))) := fun w' h => by
    have := prdec_any h.1 h.2 hl
    rw [hs] at this
    simp only [hge, hgp] at this
    exact this
  have HREF : Hid (∀ w', Sl rpU8 w' D A l.length c l → Calls Try.prog 58 #[.agg (rdV A l.length c ((0 : Nat) : Int) (0, 0))] w' (RpIs w' A l.length c ((0, ([] : List Stp)), q, (F1, F2)))) := fun w' h => by
    have := rpread_any h.1 h.2 OkF.nil (Nat.zero_le _) hl
    rw [hs] at this
    exact this
  have HEND : Hid (∀ w' : World, Calls Try.prog 61 #[.agg (rdV A l.length c q (F1, F2))] w' fun e w'' => e = .returned (.agg (rdV A l.length c q (F1, F2))) ∧ Below w'.heap.size w' w'') := fun w' => by
    have := rend_any A l.length c q (F1, F2) w' hqle hl
    rw [hge] at this
    exact this
  have hg1 : (F1 == 0) = false := by simpa using hF
  have hg2 : (F1 != 0) = true := by simpa using hF
  have hd500 : decide ((500 : Int) < (l.length : Int)) = false := by simp; omega
  have SL_0 : Hid (Sl rpU8 w D A l.length c l) := ⟨h, hD⟩
  have BB_0 : Hid (Below w.heap.size w w) := Below.refl _ _
  have HQ := Lib.hid hqle
  clear h hD hs hgn hge hgp hF
  go_enter Try.func10, Try.ntmps10
  go_wp2_with fail
  refine (HGET.out _ SL_0.out).mono ?_; rintro en w1 ⟨Ap, np, cp, rfl, hop, hb⟩
  obtain ⟨Dp, hsp⟩ : ∃ Dq, Sl rpStp w1 Dq Ap np cp ([] : List Stp) := ⟨_, OL.sl hop, fun k hk => hk⟩
  clear hop
  have SL_1 : Hid (Sl rpU8 w1 D A l.length c l) := keepS SL_0.out hb
  have BB_1 : Hid (Below w.heap.size w w1) := stepB BB_0.out hb
  have sp_1 : Hid (Sl rpStp w1 Dp Ap np cp ([] : List Stp)) := hsp
  clear hb
  clear hsp
  go_upto_region 4 with (fail)
  have hb : Below w1.heap.size w1 ((w1.alloc (.cells (prjV 0 Ap np cp) 25)).alloc (.cells (fltV (F1, F2)) 40)) := below2 _ (.cells (prjV 0 Ap np cp) 25) (.cells (fltV (F1, F2)) 40)
  have SL_2 : Hid (Sl rpU8 ((w1.alloc (.cells (prjV 0 Ap np cp) 25)).alloc (.cells (fltV (F1, F2)) 40)) D A l.length c l) := keepS SL_1.out hb
  have sp_2 : Hid (Sl rpStp ((w1.alloc (.cells (prjV 0 Ap np cp) 25)).alloc (.cells (fltV (F1, F2)) 40)) Dp Ap np cp ([] : List Stp)) := keepS sp_1.out hb
  have BB_2 : Hid (Below w.heap.size w ((w1.alloc (.cells (prjV 0 Ap np cp) 25)).alloc (.cells (fltV (F1, F2)) 40))) := stepB BB_1.out hb
  have sz_1 := BB_1.out.size
  have pp_2 : Hid (Blk ((w1.alloc (.cells (prjV 0 Ap np cp) 25)).alloc (.cells (fltV (F1, F2)) 40)) w1.heap.size 25 (prjV 0 Ap np cp)) := blk21 _ _ _ _ _
  have fp_2 : Hid (Blk ((w1.alloc (.cells (prjV 0 Ap np cp) 25)).alloc (.cells (fltV (F1, F2)) 40)) (w1.heap.size + 1) 40 (fltV (F1, F2))) := blk22 _ _ _ _ _
  clear hb
  generalize hga : w1.heap.size = ga at *
  generalize World.alloc (World.alloc w1 _) _ = w2 at *
  go_wp2_with fail
  refine (HDEC.out _ SL_2.out).mono ?_; rintro en w3 ⟨Au, nu, cu, rfl, hou, hb⟩
  obtain ⟨Du, hsu⟩ : ∃ Dq, Sl rpStp w3 Dq Au nu cu ([] : List Stp) := ⟨_, OL.sl hou, fun k hk => hk⟩
  clear hou
  have SL_3 : Hid (Sl rpU8 w3 D A l.length c l) := keepS SL_2.out hb
  have sp_3 : Hid (Sl rpStp w3 Dp Ap np cp ([] : List Stp)) := keepS sp_2.out hb
  have pp_3 : Hid (Blk w3 ga 25 (prjV 0 Ap np cp)) := keepB pp_2.out hb
  have fp_3 : Hid (Blk w3 (ga + 1) 40 (fltV (F1, F2))) := keepB fp_2.out hb
  have BB_3 : Hid (Below w.heap.size w w3) := stepB BB_2.out hb
  have su_3 : Hid (Sl rpStp w3 Du Au nu cu ([] : List Stp)) := hsu
  clear hb
  clear hsu
  go_upto_region 5 with (fail)
  have hb : Below w3.heap.size w3 ((w3.alloc (.cells (prjV 0 Au nu cu) 25)).alloc (.cells (fltV (F1, F2)) 40)) := below2 _ (.cells (prjV 0 Au nu cu) 25) (.cells (fltV (F1, F2)) 40)
  have SL_4 : Hid (Sl rpU8 ((w3.alloc (.cells (prjV 0 Au nu cu) 25)).alloc (.cells (fltV (F1, F2)) 40)) D A l.length c l) := keepS SL_3.out hb
  have sp_4 : Hid (Sl rpStp ((w3.alloc (.cells (prjV 0 Au nu cu) 25)).alloc (.cells (fltV (F1, F2)) 40)) Dp Ap np cp ([] : List Stp)) := keepS sp_3.out hb
  have pp_4 : Hid (Blk ((w3.alloc (.cells (prjV 0 Au nu cu) 25)).alloc (.cells (fltV (F1, F2)) 40)) ga 25 (prjV 0 Ap np cp)) := keepB pp_3.out hb
  have fp_4 : Hid (Blk ((w3.alloc (.cells (prjV 0 Au nu cu) 25)).alloc (.cells (fltV (F1, F2)) 40)) (ga + 1) 40 (fltV (F1, F2))) := keepB fp_3.out hb
  have su_4 : Hid (Sl rpStp ((w3.alloc (.cells (prjV 0 Au nu cu) 25)).alloc (.cells (fltV (F1, F2)) 40)) Du Au nu cu ([] : List Stp)) := keepS su_3.out hb
  have BB_4 : Hid (Below w.heap.size w ((w3.alloc (.cells (prjV 0 Au nu cu) 25)).alloc (.cells (fltV (F1, F2)) 40))) := stepB BB_3.out hb
  have sz_3 := BB_3.out.size
  have pu_4 : Hid (Blk ((w3.alloc (.cells (prjV 0 Au nu cu) 25)).alloc (.cells (fltV (F1, F2)) 40)) w3.heap.size 25 (prjV 0 Au nu cu)) := blk21 _ _ _ _ _
  have fu_4 : Hid (Blk ((w3.alloc (.cells (prjV 0 Au nu cu) 25)).alloc (.cells (fltV (F1, F2)) 40)) (w3.heap.size + 1) 40 (fltV (F1, F2))) := blk22 _ _ _ _ _
  clear hb
  generalize hgb : w3.heap.size = gb at *
  generalize World.alloc (World.alloc w3 _) _ = w4 at *
  go_wp2_with fail
  refine (HREF.out _ SL_4.out).mono ?_; rintro en w5 ⟨Ar, nr, cr, rfl, hor, hb⟩
  obtain ⟨Dr, hsr⟩ : ∃ Dq, Sl rpStp w5 Dq Ar nr cr ([] : List Stp) := ⟨_, OL.sl hor, fun k hk => hk⟩
  clear hor
  have SL_5 : Hid (Sl rpU8 w5 D A l.length c l) := keepS SL_4.out hb
  have sp_5 : Hid (Sl rpStp w5 Dp Ap np cp ([] : List Stp)) := keepS sp_4.out hb
  have pp_5 : Hid (Blk w5 ga 25 (prjV 0 Ap np cp)) := keepB pp_4.out hb
  have fp_5 : Hid (Blk w5 (ga + 1) 40 (fltV (F1, F2))) := keepB fp_4.out hb
  have su_5 : Hid (Sl rpStp w5 Du Au nu cu ([] : List Stp)) := keepS su_4.out hb
  have pu_5 : Hid (Blk w5 gb 25 (prjV 0 Au nu cu)) := keepB pu_4.out hb
  have fu_5 : Hid (Blk w5 (gb + 1) 40 (fltV (F1, F2))) := keepB fu_4.out hb
  have BB_5 : Hid (Below w.heap.size w w5) := stepB BB_4.out hb
  have sr_5 : Hid (Sl rpStp w5 Dr Ar nr cr ([] : List Stp)) := hsr
  clear hb
  clear hsr
  go_upto_region 6 with (fail)
  have hb : Below w5.heap.size w5 ((w5.alloc (.cells (rdV A l.length c q (F1, F2)) 71)).alloc (.cells (prjV 0 Ar nr cr) 25)) := below2 _ (.cells (rdV A l.length c q (F1, F2)) 71) (.cells (prjV 0 Ar nr cr) 25)
  have SL_6 : Hid (Sl rpU8 ((w5.alloc (.cells (rdV A l.length c q (F1, F2)) 71)).alloc (.cells (prjV 0 Ar nr cr) 25)) D A l.length c l) := keepS SL_5.out hb
  have sp_6 : Hid (Sl rpStp ((w5.alloc (.cells (rdV A l.length c q (F1, F2)) 71)).alloc (.cells (prjV 0 Ar nr cr) 25)) Dp Ap np cp ([] : List Stp)) := keepS sp_5.out hb
  have pp_6 : Hid (Blk ((w5.alloc (.cells (rdV A l.length c q (F1, F2)) 71)).alloc (.cells (prjV 0 Ar nr cr) 25)) ga 25 (prjV 0 Ap np cp)) := keepB pp_5.out hb
  have fp_6 : Hid (Blk ((w5.alloc (.cells (rdV A l.length c q (F1, F2)) 71)).alloc (.cells (prjV 0 Ar nr cr) 25)) (ga + 1) 40 (fltV (F1, F2))) := keepB fp_5.out hb
  have su_6 : Hid (Sl rpStp ((w5.alloc (.cells (rdV A l.length c q (F1, F2)) 71)).alloc (.cells (prjV 0 Ar nr cr) 25)) Du Au nu cu ([] : List Stp)) := keepS su_5.out hb
  have pu_6 : Hid (Blk ((w5.alloc (.cells (rdV A l.length c q (F1, F2)) 71)).alloc (.cells (prjV 0 Ar nr cr) 25)) gb 25 (prjV 0 Au nu cu)) := keepB pu_5.out hb
  have fu_6 : Hid (Blk ((w5.alloc (.cells (rdV A l.length c q (F1, F2)) 71)).alloc (.cells (prjV 0 Ar nr cr) 25)) (gb + 1) 40 (fltV (F1, F2))) := keepB fu_5.out hb
  have sr_6 : Hid (Sl rpStp ((w5.alloc (.cells (rdV A l.length c q (F1, F2)) 71)).alloc (.cells (prjV 0 Ar nr cr) 25)) Dr Ar nr cr ([] : List Stp)) := keepS sr_5.out hb
  have BB_6 : Hid (Below w.heap.size w ((w5.alloc (.cells (rdV A l.length c q (F1, F2)) 71)).alloc (.cells (prjV 0 Ar nr cr) 25))) := stepB BB_5.out hb
  have sz_5 := BB_5.out.size
  have cc_6 : Hid (Blk ((w5.alloc (.cells (rdV A l.length c q (F1, F2)) 71)).alloc (.cells (prjV 0 Ar nr cr) 25)) w5.heap.size 71 (rdV A l.length c q (F1, F2))) := blk21 _ _ _ _ _
  have pw_6 : Hid (Blk ((w5.alloc (.cells (rdV A l.length c q (F1, F2)) 71)).alloc (.cells (prjV 0 Ar nr cr) 25)) (w5.heap.size + 1) 25 (prjV 0 Ar nr cr)) := blk22 _ _ _ _ _
  clear hb
  generalize hgc : w5.heap.size = gc at *
  generalize World.alloc (World.alloc w5 _) _ = w6 at *
  go_wp2_with fail
  refine (HNEW.out _ SL_6.out).mono ?_; rintro en w7 ⟨rfl, hr, hb⟩
  obtain ⟨gr, hgr⟩ : ∃ gr, gr = w6.heap.size := ⟨_, rfl⟩
  rw [← hgr] at hr
  have SL_7 : Hid (Sl rpU8 w7 D A l.length c l) := keepS SL_6.out hb
  have sp_7 : Hid (Sl rpStp w7 Dp Ap np cp ([] : List Stp)) := keepS sp_6.out hb
  have pp_7 : Hid (Blk w7 ga 25 (prjV 0 Ap np cp)) := keepB pp_6.out hb
  have fp_7 : Hid (Blk w7 (ga + 1) 40 (fltV (F1, F2))) := keepB fp_6.out hb
  have su_7 : Hid (Sl rpStp w7 Du Au nu cu ([] : List Stp)) := keepS su_6.out hb
  have pu_7 : Hid (Blk w7 gb 25 (prjV 0 Au nu cu)) := keepB pu_6.out hb
  have fu_7 : Hid (Blk w7 (gb + 1) 40 (fltV (F1, F2))) := keepB fu_6.out hb
  have sr_7 : Hid (Sl rpStp w7 Dr Ar nr cr ([] : List Stp)) := keepS sr_6.out hb
  have cc_7 : Hid (Blk w7 gc 71 (rdV A l.length c q (F1, F2))) := keepB cc_6.out hb
  have pw_7 : Hid (Blk w7 (gc + 1) 25 (prjV 0 Ar nr cr)) := keepB pw_6.out hb
  have BB_7 : Hid (Below w.heap.size w w7) := stepB BB_6.out hb
  have RD_7 : Hid (Rd w7 D gr l 0 (0, 0)) := hr
  clear hb
  clear hr
  rw [← hgr]
  have HGR := Lib.hid hgr
  clear hgr
  go_wp2_with fail
  refine (HRD.out _ _ RD_7.out).mono ?_; rintro en w8 ⟨Ax, nx, cx, rfl, hox, hr, hc⟩
  obtain ⟨Dx, hsx⟩ : ∃ Dq, Sl rpStp w8 Dq Ax nx cx ([] : List Stp) := ⟨_, OL.sl hox, fun k hk => hk⟩
  clear hox
  have SL_8 : Hid (Sl rpU8 w8 D A l.length c l) := chS SL_7.out hc (fun k hk eq0 => by have eq1 : k = gr := eq0; have h1 := (SL_6.out).2 k hk; have := HGR.out; omega)
  have sp_8 : Hid (Sl rpStp w8 Dp Ap np cp ([] : List Stp)) := chS sp_7.out hc (fun k hk eq0 => by have eq1 : k = gr := eq0; have h1 := (sp_6.out).2 k hk; have := HGR.out; omega)
  have pp_8 : Hid (Blk w8 ga 25 (prjV 0 Ap np cp)) := chB pp_7.out hc (fun eq0 => by have eq1 : _ = gr := eq0; have h1 := (show Blk w6 ga 25 (prjV 0 Ap np cp) from pp_6.out).lt; have := HGR.out; omega)
  have fp_8 : Hid (Blk w8 (ga + 1) 40 (fltV (F1, F2))) := chB fp_7.out hc (fun eq0 => by have eq1 : _ = gr := eq0; have h1 := (show Blk w6 (ga + 1) 40 (fltV (F1, F2)) from fp_6.out).lt; have := HGR.out; omega)
  have su_8 : Hid (Sl rpStp w8 Du Au nu cu ([] : List Stp)) := chS su_7.out hc (fun k hk eq0 => by have eq1 : k = gr := eq0; have h1 := (su_6.out).2 k hk; have := HGR.out; omega)
  have pu_8 : Hid (Blk w8 gb 25 (prjV 0 Au nu cu)) := chB pu_7.out hc (fun eq0 => by have eq1 : _ = gr := eq0; have h1 := (show Blk w6 gb 25 (prjV 0 Au nu cu) from pu_6.out).lt; have := HGR.out; omega)
  have fu_8 : Hid (Blk w8 (gb + 1) 40 (fltV (F1, F2))) := chB fu_7.out hc (fun eq0 => by have eq1 : _ = gr := eq0; have h1 := (show Blk w6 (gb + 1) 40 (fltV (F1, F2)) from fu_6.out).lt; have := HGR.out; omega)
  have sr_8 : Hid (Sl rpStp w8 Dr Ar nr cr ([] : List Stp)) := chS sr_7.out hc (fun k hk eq0 => by have eq1 : k = gr := eq0; have h1 := (sr_6.out).2 k hk; have := HGR.out; omega)
  have cc_8 : Hid (Blk w8 gc 71 (rdV A l.length c q (F1, F2))) := chB cc_7.out hc (fun eq0 => by have eq1 : _ = gr := eq0; have h1 := (show Blk w6 gc 71 (rdV A l.length c q (F1, F2)) from cc_6.out).lt; have := HGR.out; omega)
  have pw_8 : Hid (Blk w8 (gc + 1) 25 (prjV 0 Ar nr cr)) := chB pw_7.out hc (fun eq0 => by have eq1 : _ = gr := eq0; have h1 := (show Blk w6 (gc + 1) 25 (prjV 0 Ar nr cr) from pw_6.out).lt; have := HGR.out; omega)
  have BB_8 : Hid (Below w.heap.size w w8) := chBase BB_7.out hc (fun k hk => by have e : k = gr := hk; have h1 := HGR.out; have h2 := BB_6.out.size; omega)
  have RD_8 : Hid (Rd w8 D gr l q (F1, F2)) := hr
  have sx_8 : Hid (Sl rpStp w8 Dx Ax nx cx ([] : List Stp)) := hsx
  clear hr hc hsx
  go_wp2_with fail
  have hb : Below w8.heap.size w8 (w8.alloc (.cells (prjV 0 Ax nx cx) 25)) := below1 _ (.cells (prjV 0 Ax nx cx) 25)
  have SL_9 : Hid (Sl rpU8 (w8.alloc (.cells (prjV 0 Ax nx cx) 25)) D A l.length c l) := keepS SL_8.out hb
  have sp_9 : Hid (Sl rpStp (w8.alloc (.cells (prjV 0 Ax nx cx) 25)) Dp Ap np cp ([] : List Stp)) := keepS sp_8.out hb
  have pp_9 : Hid (Blk (w8.alloc (.cells (prjV 0 Ax nx cx) 25)) ga 25 (prjV 0 Ap np cp)) := keepB pp_8.out hb
  have fp_9 : Hid (Blk (w8.alloc (.cells (prjV 0 Ax nx cx) 25)) (ga + 1) 40 (fltV (F1, F2))) := keepB fp_8.out hb
  have su_9 : Hid (Sl rpStp (w8.alloc (.cells (prjV 0 Ax nx cx) 25)) Du Au nu cu ([] : List Stp)) := keepS su_8.out hb
  have pu_9 : Hid (Blk (w8.alloc (.cells (prjV 0 Ax nx cx) 25)) gb 25 (prjV 0 Au nu cu)) := keepB pu_8.out hb
  have fu_9 : Hid (Blk (w8.alloc (.cells (prjV 0 Ax nx cx) 25)) (gb + 1) 40 (fltV (F1, F2))) := keepB fu_8.out hb
  have sr_9 : Hid (Sl rpStp (w8.alloc (.cells (prjV 0 Ax nx cx) 25)) Dr Ar nr cr ([] : List Stp)) := keepS sr_8.out hb
  have cc_9 : Hid (Blk (w8.alloc (.cells (prjV 0 Ax nx cx) 25)) gc 71 (rdV A l.length c q (F1, F2))) := keepB cc_8.out hb
  have pw_9 : Hid (Blk (w8.alloc (.cells (prjV 0 Ax nx cx) 25)) (gc + 1) 25 (prjV 0 Ar nr cr)) := keepB pw_8.out hb
  have RD_9 : Hid (Rd (w8.alloc (.cells (prjV 0 Ax nx cx) 25)) D gr l q (F1, F2)) := keepR RD_8.out hb
  have sx_9 : Hid (Sl rpStp (w8.alloc (.cells (prjV 0 Ax nx cx) 25)) Dx Ax nx cx ([] : List Stp)) := keepS sx_8.out hb
  have BB_9 : Hid (Below w.heap.size w (w8.alloc (.cells (prjV 0 Ax nx cx) 25))) := stepB BB_8.out hb
  have sz_8 := BB_8.out.size
  have px_9 : Hid (Blk (w8.alloc (.cells (prjV 0 Ax nx cx) 25)) w8.heap.size 25 (prjV 0 Ax nx cx)) := blk11 _ _ _
  clear hb
  generalize hgx : w8.heap.size = gx at *
  generalize World.alloc w8 _ = w9 at *
  have zq_px0_9 : ∀ x : Gr w9.heap.size w9, x.val.cell? ⟨gx, 0, none⟩ = _ := fun x => (keepB (show Blk w9 gx 25 (prjV 0 Ax nx cx) from px_9.out) x.is).cell 0
  have zq_px1_9 : ∀ x : Gr w9.heap.size w9, x.val.cell? ⟨gx, 1, none⟩ = _ := fun x => (keepB (show Blk w9 gx 25 (prjV 0 Ax nx cx) from px_9.out) x.is).cell 1
  have zq_pw0_9 : ∀ x : Gr w9.heap.size w9, x.val.cell? ⟨(gc + 1), 0, none⟩ = _ := fun x => (keepB (show Blk w9 (gc + 1) 25 (prjV 0 Ar nr cr) from pw_9.out) x.is).cell 0
  have zq_pw1_9 : ∀ x : Gr w9.heap.size w9, x.val.cell? ⟨(gc + 1), 1, none⟩ = _ := fun x => (keepB (show Blk w9 (gc + 1) 25 (prjV 0 Ar nr cr) from pw_9.out) x.is).cell 1
  have zq_cc2_9 : ∀ x : Gr w9.heap.size w9, x.val.cell? ⟨gc, 2, none⟩ = _ := fun x => (keepB (show Blk w9 gc 71 (rdV A l.length c q (F1, F2)) from cc_9.out) x.is).cell 2
  have zq_cc3_9 : ∀ x : Gr w9.heap.size w9, x.val.cell? ⟨gc, 3, none⟩ = _ := fun x => (keepB (show Blk w9 gc 71 (rdV A l.length c q (F1, F2)) from cc_9.out) x.is).cell 3
  have RQ : Hid (∀ x : Gr w9.heap.size w9, Rd x.val D gr l q (F1, F2)) := fun x => keepR (show Rd w9 D gr l q (F1, F2) from RD_9.out) x.is
  have hsm := fun qq : Gr w9.heap.size w9 => rpsame_any (e := 0) (e' := 0) (keepS sx_9.out qq.is).1 (keepS sr_9.out qq.is).1 (keepS sx_9.out qq.is).2 (keepS sr_9.out qq.is).2
  rw [dec_true rfl] at hsm
  have HSM := Lib.hid hsm
  clear hsm
  refine wp_region_grow (by kernel_rfl) (by kernel_rfl) w9.heap.size ?_
  repeat (first | go_big_quiet_step ((first | (go_at_call 36; exact Gr.call _ (Nat.le_refl _) (HSM.out _)) | (go_at_call 44; exact Gr.call _ (Nat.le_refl _) (cfault_at (RQ.out _))))) | quiet_step ((first | (go_at_call 36; exact Gr.call _ (Nat.le_refl _) (HSM.out _)) | (go_at_call 44; exact Gr.call _ (Nat.le_refl _) (cfault_at (RQ.out _))))))
  refine wpQuiet_nil ?_
  rintro w10 ⟨⟨_, hb⟩, rfl⟩
  clear zq_px0_9 zq_px1_9 zq_pw0_9 zq_pw1_9 zq_cc2_9 zq_cc3_9 RQ
  have SL_10 : Hid (Sl rpU8 w10 D A l.length c l) := keepS SL_9.out hb
  have sp_10 : Hid (Sl rpStp w10 Dp Ap np cp ([] : List Stp)) := keepS sp_9.out hb
  have pp_10 : Hid (Blk w10 ga 25 (prjV 0 Ap np cp)) := keepB pp_9.out hb
  have fp_10 : Hid (Blk w10 (ga + 1) 40 (fltV (F1, F2))) := keepB fp_9.out hb
  have su_10 : Hid (Sl rpStp w10 Du Au nu cu ([] : List Stp)) := keepS su_9.out hb
  have pu_10 : Hid (Blk w10 gb 25 (prjV 0 Au nu cu)) := keepB pu_9.out hb
  have fu_10 : Hid (Blk w10 (gb + 1) 40 (fltV (F1, F2))) := keepB fu_9.out hb
  have sr_10 : Hid (Sl rpStp w10 Dr Ar nr cr ([] : List Stp)) := keepS sr_9.out hb
  have cc_10 : Hid (Blk w10 gc 71 (rdV A l.length c q (F1, F2))) := keepB cc_9.out hb
  have pw_10 : Hid (Blk w10 (gc + 1) 25 (prjV 0 Ar nr cr)) := keepB pw_9.out hb
  have RD_10 : Hid (Rd w10 D gr l q (F1, F2)) := keepR RD_9.out hb
  have sx_10 : Hid (Sl rpStp w10 Dx Ax nx cx ([] : List Stp)) := keepS sx_9.out hb
  have px_10 : Hid (Blk w10 gx 25 (prjV 0 Ax nx cx)) := keepB px_9.out hb
  have BB_10 : Hid (Below w.heap.size w w10) := stepB BB_9.out hb
  clear hb
  go_wp2_with fail
  have zq_pp0_10 : ∀ x : Gr w10.heap.size w10, x.val.cell? ⟨ga, 0, none⟩ = _ := fun x => (keepB (show Blk w10 ga 25 (prjV 0 Ap np cp) from pp_10.out) x.is).cell 0
  have zq_pp1_10 : ∀ x : Gr w10.heap.size w10, x.val.cell? ⟨ga, 1, none⟩ = _ := fun x => (keepB (show Blk w10 ga 25 (prjV 0 Ap np cp) from pp_10.out) x.is).cell 1
  have zq_pw0_10 : ∀ x : Gr w10.heap.size w10, x.val.cell? ⟨(gc + 1), 0, none⟩ = _ := fun x => (keepB (show Blk w10 (gc + 1) 25 (prjV 0 Ar nr cr) from pw_10.out) x.is).cell 0
  have zq_pw1_10 : ∀ x : Gr w10.heap.size w10, x.val.cell? ⟨(gc + 1), 1, none⟩ = _ := fun x => (keepB (show Blk w10 (gc + 1) 25 (prjV 0 Ar nr cr) from pw_10.out) x.is).cell 1
  have zq_fp0_10 : ∀ x : Gr w10.heap.size w10, x.val.cell? ⟨(ga + 1), 0, none⟩ = _ := fun x => (keepB (show Blk w10 (ga + 1) 40 (fltV (F1, F2)) from fp_10.out) x.is).cell 0
  have zq_fp1_10 : ∀ x : Gr w10.heap.size w10, x.val.cell? ⟨(ga + 1), 1, none⟩ = _ := fun x => (keepB (show Blk w10 (ga + 1) 40 (fltV (F1, F2)) from fp_10.out) x.is).cell 1
  have zq_cc2_10 : ∀ x : Gr w10.heap.size w10, x.val.cell? ⟨gc, 2, none⟩ = _ := fun x => (keepB (show Blk w10 gc 71 (rdV A l.length c q (F1, F2)) from cc_10.out) x.is).cell 2
  have zq_cc3_10 : ∀ x : Gr w10.heap.size w10, x.val.cell? ⟨gc, 3, none⟩ = _ := fun x => (keepB (show Blk w10 gc 71 (rdV A l.length c q (F1, F2)) from cc_10.out) x.is).cell 3
  have hsm := fun qq : Gr w10.heap.size w10 => rpsame_any (e := 0) (e' := 0) (keepS sp_10.out qq.is).1 (keepS sr_10.out qq.is).1 (keepS sp_10.out qq.is).2 (keepS sr_10.out qq.is).2
  rw [dec_true rfl] at hsm
  have HSN := Lib.hid hsm
  clear hsm
  refine wp_region_grow (by kernel_rfl) (by kernel_rfl) w10.heap.size ?_
  repeat (first | go_big_quiet_step ((go_at_call 36; exact Gr.call _ (Nat.le_refl _) (HSN.out _))) | quiet_step ((go_at_call 36; exact Gr.call _ (Nat.le_refl _) (HSN.out _))))
  refine wpQuiet_nil ?_
  rintro w11 ⟨⟨_, hb⟩, rfl⟩
  clear zq_pp0_10 zq_pp1_10 zq_pw0_10 zq_pw1_10 zq_fp0_10 zq_fp1_10 zq_cc2_10 zq_cc3_10
  have SL_11 : Hid (Sl rpU8 w11 D A l.length c l) := keepS SL_10.out hb
  have sp_11 : Hid (Sl rpStp w11 Dp Ap np cp ([] : List Stp)) := keepS sp_10.out hb
  have pp_11 : Hid (Blk w11 ga 25 (prjV 0 Ap np cp)) := keepB pp_10.out hb
  have fp_11 : Hid (Blk w11 (ga + 1) 40 (fltV (F1, F2))) := keepB fp_10.out hb
  have su_11 : Hid (Sl rpStp w11 Du Au nu cu ([] : List Stp)) := keepS su_10.out hb
  have pu_11 : Hid (Blk w11 gb 25 (prjV 0 Au nu cu)) := keepB pu_10.out hb
  have fu_11 : Hid (Blk w11 (gb + 1) 40 (fltV (F1, F2))) := keepB fu_10.out hb
  have sr_11 : Hid (Sl rpStp w11 Dr Ar nr cr ([] : List Stp)) := keepS sr_10.out hb
  have cc_11 : Hid (Blk w11 gc 71 (rdV A l.length c q (F1, F2))) := keepB cc_10.out hb
  have pw_11 : Hid (Blk w11 (gc + 1) 25 (prjV 0 Ar nr cr)) := keepB pw_10.out hb
  have RD_11 : Hid (Rd w11 D gr l q (F1, F2)) := keepR RD_10.out hb
  have sx_11 : Hid (Sl rpStp w11 Dx Ax nx cx ([] : List Stp)) := keepS sx_10.out hb
  have px_11 : Hid (Blk w11 gx 25 (prjV 0 Ax nx cx)) := keepB px_10.out hb
  have BB_11 : Hid (Below w.heap.size w w11) := stepB BB_10.out hb
  clear hb
  have z_cc0_11 := (show Blk w11 gc 71 (rdV A l.length c q (F1, F2)) from cc_11.out).cell 0
  have z_cc1_11 := (show Blk w11 gc 71 (rdV A l.length c q (F1, F2)) from cc_11.out).cell 1
  have z_cc2_11 := (show Blk w11 gc 71 (rdV A l.length c q (F1, F2)) from cc_11.out).cell 2
  have z_cc3_11 := (show Blk w11 gc 71 (rdV A l.length c q (F1, F2)) from cc_11.out).cell 3
  go_wp2_with fail
  refine (HEND.out _).mono ?_; rintro en w12 ⟨rfl, hb⟩
  have SL_12 : Hid (Sl rpU8 w12 D A l.length c l) := keepS SL_11.out hb
  have sp_12 : Hid (Sl rpStp w12 Dp Ap np cp ([] : List Stp)) := keepS sp_11.out hb
  have pp_12 : Hid (Blk w12 ga 25 (prjV 0 Ap np cp)) := keepB pp_11.out hb
  have fp_12 : Hid (Blk w12 (ga + 1) 40 (fltV (F1, F2))) := keepB fp_11.out hb
  have su_12 : Hid (Sl rpStp w12 Du Au nu cu ([] : List Stp)) := keepS su_11.out hb
  have pu_12 : Hid (Blk w12 gb 25 (prjV 0 Au nu cu)) := keepB pu_11.out hb
  have fu_12 : Hid (Blk w12 (gb + 1) 40 (fltV (F1, F2))) := keepB fu_11.out hb
  have sr_12 : Hid (Sl rpStp w12 Dr Ar nr cr ([] : List Stp)) := keepS sr_11.out hb
  have cc_12 : Hid (Blk w12 gc 71 (rdV A l.length c q (F1, F2))) := keepB cc_11.out hb
  have pw_12 : Hid (Blk w12 (gc + 1) 25 (prjV 0 Ar nr cr)) := keepB pw_11.out hb
  have RD_12 : Hid (Rd w12 D gr l q (F1, F2)) := keepR RD_11.out hb
  have sx_12 : Hid (Sl rpStp w12 Dx Ax nx cx ([] : List Stp)) := keepS sx_11.out hb
  have px_12 : Hid (Blk w12 gx 25 (prjV 0 Ax nx cx)) := keepB px_11.out hb
  have BB_12 : Hid (Below w.heap.size w w12) := stepB BB_11.out hb
  clear z_cc0_11 z_cc1_11 z_cc2_11 z_cc3_11
  clear hb
  go_upto_region 13 with (fail)
  have hb : Below w12.heap.size w12 (w12.alloc (.cells (rdV A l.length c q (F1, F2)) 71)) := below1 _ (.cells (rdV A l.length c q (F1, F2)) 71)
  have SL_13 : Hid (Sl rpU8 (w12.alloc (.cells (rdV A l.length c q (F1, F2)) 71)) D A l.length c l) := keepS SL_12.out hb
  have sp_13 : Hid (Sl rpStp (w12.alloc (.cells (rdV A l.length c q (F1, F2)) 71)) Dp Ap np cp ([] : List Stp)) := keepS sp_12.out hb
  have pp_13 : Hid (Blk (w12.alloc (.cells (rdV A l.length c q (F1, F2)) 71)) ga 25 (prjV 0 Ap np cp)) := keepB pp_12.out hb
  have fp_13 : Hid (Blk (w12.alloc (.cells (rdV A l.length c q (F1, F2)) 71)) (ga + 1) 40 (fltV (F1, F2))) := keepB fp_12.out hb
  have su_13 : Hid (Sl rpStp (w12.alloc (.cells (rdV A l.length c q (F1, F2)) 71)) Du Au nu cu ([] : List Stp)) := keepS su_12.out hb
  have pu_13 : Hid (Blk (w12.alloc (.cells (rdV A l.length c q (F1, F2)) 71)) gb 25 (prjV 0 Au nu cu)) := keepB pu_12.out hb
  have fu_13 : Hid (Blk (w12.alloc (.cells (rdV A l.length c q (F1, F2)) 71)) (gb + 1) 40 (fltV (F1, F2))) := keepB fu_12.out hb
  have sr_13 : Hid (Sl rpStp (w12.alloc (.cells (rdV A l.length c q (F1, F2)) 71)) Dr Ar nr cr ([] : List Stp)) := keepS sr_12.out hb
  have cc_13 : Hid (Blk (w12.alloc (.cells (rdV A l.length c q (F1, F2)) 71)) gc 71 (rdV A l.length c q (F1, F2))) := keepB cc_12.out hb
  have pw_13 : Hid (Blk (w12.alloc (.cells (rdV A l.length c q (F1, F2)) 71)) (gc + 1) 25 (prjV 0 Ar nr cr)) := keepB pw_12.out hb
  have RD_13 : Hid (Rd (w12.alloc (.cells (rdV A l.length c q (F1, F2)) 71)) D gr l q (F1, F2)) := keepR RD_12.out hb
  have sx_13 : Hid (Sl rpStp (w12.alloc (.cells (rdV A l.length c q (F1, F2)) 71)) Dx Ax nx cx ([] : List Stp)) := keepS sx_12.out hb
  have px_13 : Hid (Blk (w12.alloc (.cells (rdV A l.length c q (F1, F2)) 71)) gx 25 (prjV 0 Ax nx cx)) := keepB px_12.out hb
  have BB_13 : Hid (Below w.heap.size w (w12.alloc (.cells (rdV A l.length c q (F1, F2)) 71))) := stepB BB_12.out hb
  have sz_12 := BB_12.out.size
  have dd_13 : Hid (Blk (w12.alloc (.cells (rdV A l.length c q (F1, F2)) 71)) w12.heap.size 71 (rdV A l.length c q (F1, F2))) := blk11 _ _ _
  clear hb
  generalize hgd : w12.heap.size = gd at *
  generalize World.alloc w12 _ = w13 at *
  have z_dd2_13 := (show Blk w13 gd 71 (rdV A l.length c q (F1, F2)) from dd_13.out).cell 2
  have z_dd3_13 := (show Blk w13 gd 71 (rdV A l.length c q (F1, F2)) from dd_13.out).cell 3
  have z_pu0_13 := (show Blk w13 gb 25 (prjV 0 Au nu cu) from pu_13.out).cell 0
  have z_pu1_13 := (show Blk w13 gb 25 (prjV 0 Au nu cu) from pu_13.out).cell 1
  have z_fu0_13 := (show Blk w13 (gb + 1) 40 (fltV (F1, F2)) from fu_13.out).cell 0
  have z_fu1_13 := (show Blk w13 (gb + 1) 40 (fltV (F1, F2)) from fu_13.out).cell 1
  go_wp2_with fail
  have hss := rpsame_any (e := 0) (e' := 0) (su_13.out).1 (show rpStp.sl w13 (fun _ => False) none 0 0 [] from Rp.sl_nil _ _ _ _ _ (by decide)) (su_13.out).2 (fun k hk => hk.elim)
  rw [dec_true rfl] at hss
  have HSU := Lib.hid hss
  clear hss
  refine (HSU.out).mono ?_; rintro en w14 ⟨rfl, hb⟩
  have SL_14 : Hid (Sl rpU8 w14 D A l.length c l) := keepS SL_13.out hb
  have sp_14 : Hid (Sl rpStp w14 Dp Ap np cp ([] : List Stp)) := keepS sp_13.out hb
  have pp_14 : Hid (Blk w14 ga 25 (prjV 0 Ap np cp)) := keepB pp_13.out hb
  have fp_14 : Hid (Blk w14 (ga + 1) 40 (fltV (F1, F2))) := keepB fp_13.out hb
  have su_14 : Hid (Sl rpStp w14 Du Au nu cu ([] : List Stp)) := keepS su_13.out hb
  have pu_14 : Hid (Blk w14 gb 25 (prjV 0 Au nu cu)) := keepB pu_13.out hb
  have fu_14 : Hid (Blk w14 (gb + 1) 40 (fltV (F1, F2))) := keepB fu_13.out hb
  have sr_14 : Hid (Sl rpStp w14 Dr Ar nr cr ([] : List Stp)) := keepS sr_13.out hb
  have cc_14 : Hid (Blk w14 gc 71 (rdV A l.length c q (F1, F2))) := keepB cc_13.out hb
  have pw_14 : Hid (Blk w14 (gc + 1) 25 (prjV 0 Ar nr cr)) := keepB pw_13.out hb
  have RD_14 : Hid (Rd w14 D gr l q (F1, F2)) := keepR RD_13.out hb
  have sx_14 : Hid (Sl rpStp w14 Dx Ax nx cx ([] : List Stp)) := keepS sx_13.out hb
  have px_14 : Hid (Blk w14 gx 25 (prjV 0 Ax nx cx)) := keepB px_13.out hb
  have dd_14 : Hid (Blk w14 gd 71 (rdV A l.length c q (F1, F2))) := keepB dd_13.out hb
  have BB_14 : Hid (Below w.heap.size w w14) := stepB BB_13.out hb
  clear z_dd2_13 z_dd3_13 z_pu0_13 z_pu1_13 z_fu0_13 z_fu1_13
  clear hb
  have z_dd2_14 := (show Blk w14 gd 71 (rdV A l.length c q (F1, F2)) from dd_14.out).cell 2
  have z_dd3_14 := (show Blk w14 gd 71 (rdV A l.length c q (F1, F2)) from dd_14.out).cell 3
  have z_fu0_14 := (show Blk w14 (gb + 1) 40 (fltV (F1, F2)) from fu_14.out).cell 0
  have z_fu1_14 := (show Blk w14 (gb + 1) 40 (fltV (F1, F2)) from fu_14.out).cell 1
  go_wp2_with fail
  refine (plive_any _).mono ?_; rintro en w15 ⟨rfl, hb⟩
  have SL_15 : Hid (Sl rpU8 w15 D A l.length c l) := keepS SL_14.out hb
  have sp_15 : Hid (Sl rpStp w15 Dp Ap np cp ([] : List Stp)) := keepS sp_14.out hb
  have pp_15 : Hid (Blk w15 ga 25 (prjV 0 Ap np cp)) := keepB pp_14.out hb
  have fp_15 : Hid (Blk w15 (ga + 1) 40 (fltV (F1, F2))) := keepB fp_14.out hb
  have su_15 : Hid (Sl rpStp w15 Du Au nu cu ([] : List Stp)) := keepS su_14.out hb
  have pu_15 : Hid (Blk w15 gb 25 (prjV 0 Au nu cu)) := keepB pu_14.out hb
  have fu_15 : Hid (Blk w15 (gb + 1) 40 (fltV (F1, F2))) := keepB fu_14.out hb
  have sr_15 : Hid (Sl rpStp w15 Dr Ar nr cr ([] : List Stp)) := keepS sr_14.out hb
  have cc_15 : Hid (Blk w15 gc 71 (rdV A l.length c q (F1, F2))) := keepB cc_14.out hb
  have pw_15 : Hid (Blk w15 (gc + 1) 25 (prjV 0 Ar nr cr)) := keepB pw_14.out hb
  have RD_15 : Hid (Rd w15 D gr l q (F1, F2)) := keepR RD_14.out hb
  have sx_15 : Hid (Sl rpStp w15 Dx Ax nx cx ([] : List Stp)) := keepS sx_14.out hb
  have px_15 : Hid (Blk w15 gx 25 (prjV 0 Ax nx cx)) := keepB px_14.out hb
  have dd_15 : Hid (Blk w15 gd 71 (rdV A l.length c q (F1, F2))) := keepB dd_14.out hb
  have BB_15 : Hid (Below w.heap.size w w15) := stepB BB_14.out hb
  clear z_dd2_14 z_dd3_14 z_fu0_14 z_fu1_14
  clear hb
  go_wp2_with fail
  go_ret
  exact ⟨rfl, BB_15.out⟩
set_option maxRecDepth 100000 in
set_option maxHeartbeats 4000000 in
theorem preads_rest (h : rpU8.sl w D A n c l) (hD : ∀ k, D k → k < w.heap.size) (hn : n ≤ 500) (hs : prjF l 0 (0, 0) = ((e, st), q, ((0 : Int), (0 : Int)))) (hq : q < l.length) :
    Calls Try.prog 10 #[.slice A n c] w fun e w' => e = .returned (.bool true) ∧ Below w.heap.size w w' := by
  obtain ⟨hlen, hnc, hcm⟩ := Rp.sl_len h
  unfold maxLen at hcm
  subst hlen
  have hl : l.length ≤ 1000000000 := by omega
  have hqle : q ≤ l.length := by have := prjF_q (l := l) (p := 0) (f := (0, 0)) (Nat.zero_le _); rw [hs] at this; exact this
  have hgn : gotN q ((0 : Int), (0 : Int)) = (q : Int) := if_pos rfl
  have hge : endF l.length q ((0 : Int), (0 : Int)) = ((9 : Int), (q : Int)) := if_pos hq
  have hgp : gotP (e, st) ((9 : Int), (q : Int)) = (0, ([] : List Stp)) := if_neg (show (9 : Int) ≠ 0 by decide)
  have HNEW : Hid (∀ w', Sl rpU8 w' D A l.length c l → Calls Try.prog 40 #[.slice A l.length c] w' fun e w'' => e = .returned (.pointer (some ⟨w'.heap.size, 0, none⟩)) ∧ Rd w'' D w'.heap.size l 0 (0, 0) ∧ Below w'.heap.size w' w'') := fun w' h => cnew_any h.1 h.2
  have HRD : Hid (∀ (w : World) (g : Nat), Rd w D g l 0 (0, 0) → Calls Try.prog 59 #[.pointer (some ⟨g, 0, none⟩)] w (PrIs w D g l ((e, st), q, ((0 : Int), (0 : Int))))) := fun w g h => by
    have := prread_any h OkF.nil hl
    rw [hs] at this
    exact this
  have HGET : Hid (∀ w', Sl rpU8 w' D A l.length c l → Calls Try.prog 57 #[.slice A l.length c] w' (GetIs w' (e, st) (q : Int) ((0 : Int), (0 : Int)))) := fun w' h => by
    have := prget_any h.1 h.2 hl
    rw [hs] at this
    simp only [hgn] at this
    exact this
  have HDEC : Hid (∀ w', Sl rpU8 w' D A l.length c l → Calls Try.prog 21 #[.slice A l.length c] w' (DecIs w' (0, ([] : List Stp)) ((9 : Int), (q : Int)))) := fun w' h => by
    have := prdec_any h.1 h.2 hl
    rw [hs] at this
    simp only [hge, hgp] at this
    exact this
  have HREF : Hid (∀ w', Sl rpU8 w' D A l.length c l → Calls Try.prog 58 #[.agg (rdV A l.length c ((0 : Nat) : Int) (0, 0))] w' (RpIs w' A l.length c ((e, st), q, ((0 : Int), (0 : Int))))) := fun w' h => by
    have := rpread_any h.1 h.2 OkF.nil (Nat.zero_le _) hl
    rw [hs] at this
    exact this
  have HEND : Hid (∀ w' : World, Calls Try.prog 61 #[.agg (rdV A l.length c q ((0 : Int), (0 : Int)))] w' fun e w'' => e = .returned (.agg (rdV A l.length c q ((9 : Int), (q : Int)))) ∧ Below w'.heap.size w' w'') := fun w' => by
    have := rend_any A l.length c q ((0 : Int), (0 : Int)) w' hqle hl
    rw [hge] at this
    exact this
  have hinv := prjF_inv (l := l) (p := 0) (f := (0, 0)) (Nat.zero_le _) (by rw [hs])
  rw [hs] at hinv
  obtain ⟨hok, hqb, hqq, hst⟩ := hinv
  clear hqq
  simp only [Nat.zero_add] at hok hqb hst
  have htk : l.take q = prb (e, st) := by
    have := hst.eq0 (by rw [← hqb]; exact hqle)
    rw [← hqb] at this; exact this
  have HOK := Lib.hid hok
  have HTK := Lib.hid htk
  have he64 : e ≤ 18446744073709551615 := by have := hok.1.1.1.2; simp only at this; omega
  clear hok hqb hst htk
  have hd500 : decide ((500 : Int) < (l.length : Int)) = false := by simp; omega
  have SL_0 : Hid (Sl rpU8 w D A l.length c l) := ⟨h, hD⟩
  have BB_0 : Hid (Below w.heap.size w w) := Below.refl _ _
  have HQ := Lib.hid hqle
  clear h hD hs hgn hge hgp hq
  go_enter Try.func10, Try.ntmps10
  go_wp2_with fail
  refine (HGET.out _ SL_0.out).mono ?_; rintro en w1 ⟨Ap, np, cp, rfl, hop, hb⟩
  obtain ⟨Dp, hsp⟩ : ∃ Dq, Sl rpStp w1 Dq Ap np cp st := ⟨_, OL.sl hop, fun k hk => hk⟩
  clear hop
  have SL_1 : Hid (Sl rpU8 w1 D A l.length c l) := keepS SL_0.out hb
  have BB_1 : Hid (Below w.heap.size w w1) := stepB BB_0.out hb
  have sp_1 : Hid (Sl rpStp w1 Dp Ap np cp st) := hsp
  clear hb
  clear hsp
  go_upto_region 4 with (fail)
  have hb : Below w1.heap.size w1 ((w1.alloc (.cells (prjV e Ap np cp) 25)).alloc (.cells (fltV ((0 : Int), (0 : Int))) 40)) := below2 _ (.cells (prjV e Ap np cp) 25) (.cells (fltV ((0 : Int), (0 : Int))) 40)
  have SL_2 : Hid (Sl rpU8 ((w1.alloc (.cells (prjV e Ap np cp) 25)).alloc (.cells (fltV ((0 : Int), (0 : Int))) 40)) D A l.length c l) := keepS SL_1.out hb
  have sp_2 : Hid (Sl rpStp ((w1.alloc (.cells (prjV e Ap np cp) 25)).alloc (.cells (fltV ((0 : Int), (0 : Int))) 40)) Dp Ap np cp st) := keepS sp_1.out hb
  have BB_2 : Hid (Below w.heap.size w ((w1.alloc (.cells (prjV e Ap np cp) 25)).alloc (.cells (fltV ((0 : Int), (0 : Int))) 40))) := stepB BB_1.out hb
  have sz_1 := BB_1.out.size
  have pp_2 : Hid (Blk ((w1.alloc (.cells (prjV e Ap np cp) 25)).alloc (.cells (fltV ((0 : Int), (0 : Int))) 40)) w1.heap.size 25 (prjV e Ap np cp)) := blk21 _ _ _ _ _
  have fp_2 : Hid (Blk ((w1.alloc (.cells (prjV e Ap np cp) 25)).alloc (.cells (fltV ((0 : Int), (0 : Int))) 40)) (w1.heap.size + 1) 40 (fltV ((0 : Int), (0 : Int)))) := blk22 _ _ _ _ _
  clear hb
  generalize hga : w1.heap.size = ga at *
  generalize World.alloc (World.alloc w1 _) _ = w2 at *
  go_wp2_with fail
  refine (HDEC.out _ SL_2.out).mono ?_; rintro en w3 ⟨Au, nu, cu, rfl, hou, hb⟩
  obtain ⟨Du, hsu⟩ : ∃ Dq, Sl rpStp w3 Dq Au nu cu ([] : List Stp) := ⟨_, OL.sl hou, fun k hk => hk⟩
  clear hou
  have SL_3 : Hid (Sl rpU8 w3 D A l.length c l) := keepS SL_2.out hb
  have sp_3 : Hid (Sl rpStp w3 Dp Ap np cp st) := keepS sp_2.out hb
  have pp_3 : Hid (Blk w3 ga 25 (prjV e Ap np cp)) := keepB pp_2.out hb
  have fp_3 : Hid (Blk w3 (ga + 1) 40 (fltV ((0 : Int), (0 : Int)))) := keepB fp_2.out hb
  have BB_3 : Hid (Below w.heap.size w w3) := stepB BB_2.out hb
  have su_3 : Hid (Sl rpStp w3 Du Au nu cu ([] : List Stp)) := hsu
  clear hb
  clear hsu
  go_upto_region 5 with (fail)
  have hb : Below w3.heap.size w3 ((w3.alloc (.cells (prjV 0 Au nu cu) 25)).alloc (.cells (fltV ((9 : Int), (q : Int))) 40)) := below2 _ (.cells (prjV 0 Au nu cu) 25) (.cells (fltV ((9 : Int), (q : Int))) 40)
  have SL_4 : Hid (Sl rpU8 ((w3.alloc (.cells (prjV 0 Au nu cu) 25)).alloc (.cells (fltV ((9 : Int), (q : Int))) 40)) D A l.length c l) := keepS SL_3.out hb
  have sp_4 : Hid (Sl rpStp ((w3.alloc (.cells (prjV 0 Au nu cu) 25)).alloc (.cells (fltV ((9 : Int), (q : Int))) 40)) Dp Ap np cp st) := keepS sp_3.out hb
  have pp_4 : Hid (Blk ((w3.alloc (.cells (prjV 0 Au nu cu) 25)).alloc (.cells (fltV ((9 : Int), (q : Int))) 40)) ga 25 (prjV e Ap np cp)) := keepB pp_3.out hb
  have fp_4 : Hid (Blk ((w3.alloc (.cells (prjV 0 Au nu cu) 25)).alloc (.cells (fltV ((9 : Int), (q : Int))) 40)) (ga + 1) 40 (fltV ((0 : Int), (0 : Int)))) := keepB fp_3.out hb
  have su_4 : Hid (Sl rpStp ((w3.alloc (.cells (prjV 0 Au nu cu) 25)).alloc (.cells (fltV ((9 : Int), (q : Int))) 40)) Du Au nu cu ([] : List Stp)) := keepS su_3.out hb
  have BB_4 : Hid (Below w.heap.size w ((w3.alloc (.cells (prjV 0 Au nu cu) 25)).alloc (.cells (fltV ((9 : Int), (q : Int))) 40))) := stepB BB_3.out hb
  have sz_3 := BB_3.out.size
  have pu_4 : Hid (Blk ((w3.alloc (.cells (prjV 0 Au nu cu) 25)).alloc (.cells (fltV ((9 : Int), (q : Int))) 40)) w3.heap.size 25 (prjV 0 Au nu cu)) := blk21 _ _ _ _ _
  have fu_4 : Hid (Blk ((w3.alloc (.cells (prjV 0 Au nu cu) 25)).alloc (.cells (fltV ((9 : Int), (q : Int))) 40)) (w3.heap.size + 1) 40 (fltV ((9 : Int), (q : Int)))) := blk22 _ _ _ _ _
  clear hb
  generalize hgb : w3.heap.size = gb at *
  generalize World.alloc (World.alloc w3 _) _ = w4 at *
  go_wp2_with fail
  refine (HREF.out _ SL_4.out).mono ?_; rintro en w5 ⟨Ar, nr, cr, rfl, hor, hb⟩
  obtain ⟨Dr, hsr⟩ : ∃ Dq, Sl rpStp w5 Dq Ar nr cr st := ⟨_, OL.sl hor, fun k hk => hk⟩
  clear hor
  have SL_5 : Hid (Sl rpU8 w5 D A l.length c l) := keepS SL_4.out hb
  have sp_5 : Hid (Sl rpStp w5 Dp Ap np cp st) := keepS sp_4.out hb
  have pp_5 : Hid (Blk w5 ga 25 (prjV e Ap np cp)) := keepB pp_4.out hb
  have fp_5 : Hid (Blk w5 (ga + 1) 40 (fltV ((0 : Int), (0 : Int)))) := keepB fp_4.out hb
  have su_5 : Hid (Sl rpStp w5 Du Au nu cu ([] : List Stp)) := keepS su_4.out hb
  have pu_5 : Hid (Blk w5 gb 25 (prjV 0 Au nu cu)) := keepB pu_4.out hb
  have fu_5 : Hid (Blk w5 (gb + 1) 40 (fltV ((9 : Int), (q : Int)))) := keepB fu_4.out hb
  have BB_5 : Hid (Below w.heap.size w w5) := stepB BB_4.out hb
  have sr_5 : Hid (Sl rpStp w5 Dr Ar nr cr st) := hsr
  clear hb
  clear hsr
  go_upto_region 6 with (fail)
  have hb : Below w5.heap.size w5 ((w5.alloc (.cells (rdV A l.length c q ((0 : Int), (0 : Int))) 71)).alloc (.cells (prjV e Ar nr cr) 25)) := below2 _ (.cells (rdV A l.length c q ((0 : Int), (0 : Int))) 71) (.cells (prjV e Ar nr cr) 25)
  have SL_6 : Hid (Sl rpU8 ((w5.alloc (.cells (rdV A l.length c q ((0 : Int), (0 : Int))) 71)).alloc (.cells (prjV e Ar nr cr) 25)) D A l.length c l) := keepS SL_5.out hb
  have sp_6 : Hid (Sl rpStp ((w5.alloc (.cells (rdV A l.length c q ((0 : Int), (0 : Int))) 71)).alloc (.cells (prjV e Ar nr cr) 25)) Dp Ap np cp st) := keepS sp_5.out hb
  have pp_6 : Hid (Blk ((w5.alloc (.cells (rdV A l.length c q ((0 : Int), (0 : Int))) 71)).alloc (.cells (prjV e Ar nr cr) 25)) ga 25 (prjV e Ap np cp)) := keepB pp_5.out hb
  have fp_6 : Hid (Blk ((w5.alloc (.cells (rdV A l.length c q ((0 : Int), (0 : Int))) 71)).alloc (.cells (prjV e Ar nr cr) 25)) (ga + 1) 40 (fltV ((0 : Int), (0 : Int)))) := keepB fp_5.out hb
  have su_6 : Hid (Sl rpStp ((w5.alloc (.cells (rdV A l.length c q ((0 : Int), (0 : Int))) 71)).alloc (.cells (prjV e Ar nr cr) 25)) Du Au nu cu ([] : List Stp)) := keepS su_5.out hb
  have pu_6 : Hid (Blk ((w5.alloc (.cells (rdV A l.length c q ((0 : Int), (0 : Int))) 71)).alloc (.cells (prjV e Ar nr cr) 25)) gb 25 (prjV 0 Au nu cu)) := keepB pu_5.out hb
  have fu_6 : Hid (Blk ((w5.alloc (.cells (rdV A l.length c q ((0 : Int), (0 : Int))) 71)).alloc (.cells (prjV e Ar nr cr) 25)) (gb + 1) 40 (fltV ((9 : Int), (q : Int)))) := keepB fu_5.out hb
  have sr_6 : Hid (Sl rpStp ((w5.alloc (.cells (rdV A l.length c q ((0 : Int), (0 : Int))) 71)).alloc (.cells (prjV e Ar nr cr) 25)) Dr Ar nr cr st) := keepS sr_5.out hb
  have BB_6 : Hid (Below w.heap.size w ((w5.alloc (.cells (rdV A l.length c q ((0 : Int), (0 : Int))) 71)).alloc (.cells (prjV e Ar nr cr) 25))) := stepB BB_5.out hb
  have sz_5 := BB_5.out.size
  have cc_6 : Hid (Blk ((w5.alloc (.cells (rdV A l.length c q ((0 : Int), (0 : Int))) 71)).alloc (.cells (prjV e Ar nr cr) 25)) w5.heap.size 71 (rdV A l.length c q ((0 : Int), (0 : Int)))) := blk21 _ _ _ _ _
  have pw_6 : Hid (Blk ((w5.alloc (.cells (rdV A l.length c q ((0 : Int), (0 : Int))) 71)).alloc (.cells (prjV e Ar nr cr) 25)) (w5.heap.size + 1) 25 (prjV e Ar nr cr)) := blk22 _ _ _ _ _
  clear hb
  generalize hgc : w5.heap.size = gc at *
  generalize World.alloc (World.alloc w5 _) _ = w6 at *
  go_wp2_with fail
  refine (HNEW.out _ SL_6.out).mono ?_; rintro en w7 ⟨rfl, hr, hb⟩
  obtain ⟨gr, hgr⟩ : ∃ gr, gr = w6.heap.size := ⟨_, rfl⟩
  rw [← hgr] at hr
  have SL_7 : Hid (Sl rpU8 w7 D A l.length c l) := keepS SL_6.out hb
  have sp_7 : Hid (Sl rpStp w7 Dp Ap np cp st) := keepS sp_6.out hb
  have pp_7 : Hid (Blk w7 ga 25 (prjV e Ap np cp)) := keepB pp_6.out hb
  have fp_7 : Hid (Blk w7 (ga + 1) 40 (fltV ((0 : Int), (0 : Int)))) := keepB fp_6.out hb
  have su_7 : Hid (Sl rpStp w7 Du Au nu cu ([] : List Stp)) := keepS su_6.out hb
  have pu_7 : Hid (Blk w7 gb 25 (prjV 0 Au nu cu)) := keepB pu_6.out hb
  have fu_7 : Hid (Blk w7 (gb + 1) 40 (fltV ((9 : Int), (q : Int)))) := keepB fu_6.out hb
  have sr_7 : Hid (Sl rpStp w7 Dr Ar nr cr st) := keepS sr_6.out hb
  have cc_7 : Hid (Blk w7 gc 71 (rdV A l.length c q ((0 : Int), (0 : Int)))) := keepB cc_6.out hb
  have pw_7 : Hid (Blk w7 (gc + 1) 25 (prjV e Ar nr cr)) := keepB pw_6.out hb
  have BB_7 : Hid (Below w.heap.size w w7) := stepB BB_6.out hb
  have RD_7 : Hid (Rd w7 D gr l 0 (0, 0)) := hr
  clear hb
  clear hr
  rw [← hgr]
  have HGR := Lib.hid hgr
  clear hgr
  go_wp2_with fail
  refine (HRD.out _ _ RD_7.out).mono ?_; rintro en w8 ⟨Ax, nx, cx, rfl, hox, hr, hc⟩
  obtain ⟨Dx, hsx⟩ : ∃ Dq, Sl rpStp w8 Dq Ax nx cx st := ⟨_, OL.sl hox, fun k hk => hk⟩
  clear hox
  have SL_8 : Hid (Sl rpU8 w8 D A l.length c l) := chS SL_7.out hc (fun k hk eq0 => by have eq1 : k = gr := eq0; have h1 := (SL_6.out).2 k hk; have := HGR.out; omega)
  have sp_8 : Hid (Sl rpStp w8 Dp Ap np cp st) := chS sp_7.out hc (fun k hk eq0 => by have eq1 : k = gr := eq0; have h1 := (sp_6.out).2 k hk; have := HGR.out; omega)
  have pp_8 : Hid (Blk w8 ga 25 (prjV e Ap np cp)) := chB pp_7.out hc (fun eq0 => by have eq1 : _ = gr := eq0; have h1 := (show Blk w6 ga 25 (prjV e Ap np cp) from pp_6.out).lt; have := HGR.out; omega)
  have fp_8 : Hid (Blk w8 (ga + 1) 40 (fltV ((0 : Int), (0 : Int)))) := chB fp_7.out hc (fun eq0 => by have eq1 : _ = gr := eq0; have h1 := (show Blk w6 (ga + 1) 40 (fltV ((0 : Int), (0 : Int))) from fp_6.out).lt; have := HGR.out; omega)
  have su_8 : Hid (Sl rpStp w8 Du Au nu cu ([] : List Stp)) := chS su_7.out hc (fun k hk eq0 => by have eq1 : k = gr := eq0; have h1 := (su_6.out).2 k hk; have := HGR.out; omega)
  have pu_8 : Hid (Blk w8 gb 25 (prjV 0 Au nu cu)) := chB pu_7.out hc (fun eq0 => by have eq1 : _ = gr := eq0; have h1 := (show Blk w6 gb 25 (prjV 0 Au nu cu) from pu_6.out).lt; have := HGR.out; omega)
  have fu_8 : Hid (Blk w8 (gb + 1) 40 (fltV ((9 : Int), (q : Int)))) := chB fu_7.out hc (fun eq0 => by have eq1 : _ = gr := eq0; have h1 := (show Blk w6 (gb + 1) 40 (fltV ((9 : Int), (q : Int))) from fu_6.out).lt; have := HGR.out; omega)
  have sr_8 : Hid (Sl rpStp w8 Dr Ar nr cr st) := chS sr_7.out hc (fun k hk eq0 => by have eq1 : k = gr := eq0; have h1 := (sr_6.out).2 k hk; have := HGR.out; omega)
  have cc_8 : Hid (Blk w8 gc 71 (rdV A l.length c q ((0 : Int), (0 : Int)))) := chB cc_7.out hc (fun eq0 => by have eq1 : _ = gr := eq0; have h1 := (show Blk w6 gc 71 (rdV A l.length c q ((0 : Int), (0 : Int))) from cc_6.out).lt; have := HGR.out; omega)
  have pw_8 : Hid (Blk w8 (gc + 1) 25 (prjV e Ar nr cr)) := chB pw_7.out hc (fun eq0 => by have eq1 : _ = gr := eq0; have h1 := (show Blk w6 (gc + 1) 25 (prjV e Ar nr cr) from pw_6.out).lt; have := HGR.out; omega)
  have BB_8 : Hid (Below w.heap.size w w8) := chBase BB_7.out hc (fun k hk => by have e : k = gr := hk; have h1 := HGR.out; have h2 := BB_6.out.size; omega)
  have RD_8 : Hid (Rd w8 D gr l q ((0 : Int), (0 : Int))) := hr
  have sx_8 : Hid (Sl rpStp w8 Dx Ax nx cx st) := hsx
  clear hr hc hsx
  go_wp2_with fail
  have hb : Below w8.heap.size w8 (w8.alloc (.cells (prjV e Ax nx cx) 25)) := below1 _ (.cells (prjV e Ax nx cx) 25)
  have SL_9 : Hid (Sl rpU8 (w8.alloc (.cells (prjV e Ax nx cx) 25)) D A l.length c l) := keepS SL_8.out hb
  have sp_9 : Hid (Sl rpStp (w8.alloc (.cells (prjV e Ax nx cx) 25)) Dp Ap np cp st) := keepS sp_8.out hb
  have pp_9 : Hid (Blk (w8.alloc (.cells (prjV e Ax nx cx) 25)) ga 25 (prjV e Ap np cp)) := keepB pp_8.out hb
  have fp_9 : Hid (Blk (w8.alloc (.cells (prjV e Ax nx cx) 25)) (ga + 1) 40 (fltV ((0 : Int), (0 : Int)))) := keepB fp_8.out hb
  have su_9 : Hid (Sl rpStp (w8.alloc (.cells (prjV e Ax nx cx) 25)) Du Au nu cu ([] : List Stp)) := keepS su_8.out hb
  have pu_9 : Hid (Blk (w8.alloc (.cells (prjV e Ax nx cx) 25)) gb 25 (prjV 0 Au nu cu)) := keepB pu_8.out hb
  have fu_9 : Hid (Blk (w8.alloc (.cells (prjV e Ax nx cx) 25)) (gb + 1) 40 (fltV ((9 : Int), (q : Int)))) := keepB fu_8.out hb
  have sr_9 : Hid (Sl rpStp (w8.alloc (.cells (prjV e Ax nx cx) 25)) Dr Ar nr cr st) := keepS sr_8.out hb
  have cc_9 : Hid (Blk (w8.alloc (.cells (prjV e Ax nx cx) 25)) gc 71 (rdV A l.length c q ((0 : Int), (0 : Int)))) := keepB cc_8.out hb
  have pw_9 : Hid (Blk (w8.alloc (.cells (prjV e Ax nx cx) 25)) (gc + 1) 25 (prjV e Ar nr cr)) := keepB pw_8.out hb
  have RD_9 : Hid (Rd (w8.alloc (.cells (prjV e Ax nx cx) 25)) D gr l q ((0 : Int), (0 : Int))) := keepR RD_8.out hb
  have sx_9 : Hid (Sl rpStp (w8.alloc (.cells (prjV e Ax nx cx) 25)) Dx Ax nx cx st) := keepS sx_8.out hb
  have BB_9 : Hid (Below w.heap.size w (w8.alloc (.cells (prjV e Ax nx cx) 25))) := stepB BB_8.out hb
  have sz_8 := BB_8.out.size
  have px_9 : Hid (Blk (w8.alloc (.cells (prjV e Ax nx cx) 25)) w8.heap.size 25 (prjV e Ax nx cx)) := blk11 _ _ _
  clear hb
  generalize hgx : w8.heap.size = gx at *
  generalize World.alloc w8 _ = w9 at *
  have zq_px0_9 : ∀ x : Gr w9.heap.size w9, x.val.cell? ⟨gx, 0, none⟩ = _ := fun x => (keepB (show Blk w9 gx 25 (prjV e Ax nx cx) from px_9.out) x.is).cell 0
  have zq_px1_9 : ∀ x : Gr w9.heap.size w9, x.val.cell? ⟨gx, 1, none⟩ = _ := fun x => (keepB (show Blk w9 gx 25 (prjV e Ax nx cx) from px_9.out) x.is).cell 1
  have zq_pw0_9 : ∀ x : Gr w9.heap.size w9, x.val.cell? ⟨(gc + 1), 0, none⟩ = _ := fun x => (keepB (show Blk w9 (gc + 1) 25 (prjV e Ar nr cr) from pw_9.out) x.is).cell 0
  have zq_pw1_9 : ∀ x : Gr w9.heap.size w9, x.val.cell? ⟨(gc + 1), 1, none⟩ = _ := fun x => (keepB (show Blk w9 (gc + 1) 25 (prjV e Ar nr cr) from pw_9.out) x.is).cell 1
  have zq_cc2_9 : ∀ x : Gr w9.heap.size w9, x.val.cell? ⟨gc, 2, none⟩ = _ := fun x => (keepB (show Blk w9 gc 71 (rdV A l.length c q ((0 : Int), (0 : Int))) from cc_9.out) x.is).cell 2
  have zq_cc3_9 : ∀ x : Gr w9.heap.size w9, x.val.cell? ⟨gc, 3, none⟩ = _ := fun x => (keepB (show Blk w9 gc 71 (rdV A l.length c q ((0 : Int), (0 : Int))) from cc_9.out) x.is).cell 3
  have RQ : Hid (∀ x : Gr w9.heap.size w9, Rd x.val D gr l q ((0 : Int), (0 : Int))) := fun x => keepR (show Rd w9 D gr l q ((0 : Int), (0 : Int)) from RD_9.out) x.is
  have hsm := fun qq : Gr w9.heap.size w9 => rpsame_any (e := e) (e' := e) (keepS sx_9.out qq.is).1 (keepS sr_9.out qq.is).1 (keepS sx_9.out qq.is).2 (keepS sr_9.out qq.is).2
  rw [dec_true rfl] at hsm
  have HSM := Lib.hid hsm
  clear hsm
  refine wp_region_grow (by kernel_rfl) (by kernel_rfl) w9.heap.size ?_
  repeat (first | go_big_quiet_step ((first | (go_at_call 36; exact Gr.call _ (Nat.le_refl _) (HSM.out _)) | (go_at_call 44; exact Gr.call _ (Nat.le_refl _) (cfault_at (RQ.out _))))) | quiet_step ((first | (go_at_call 36; exact Gr.call _ (Nat.le_refl _) (HSM.out _)) | (go_at_call 44; exact Gr.call _ (Nat.le_refl _) (cfault_at (RQ.out _))))))
  refine wpQuiet_nil ?_
  rintro w10 ⟨⟨_, hb⟩, rfl⟩
  clear zq_px0_9 zq_px1_9 zq_pw0_9 zq_pw1_9 zq_cc2_9 zq_cc3_9 RQ
  have SL_10 : Hid (Sl rpU8 w10 D A l.length c l) := keepS SL_9.out hb
  have sp_10 : Hid (Sl rpStp w10 Dp Ap np cp st) := keepS sp_9.out hb
  have pp_10 : Hid (Blk w10 ga 25 (prjV e Ap np cp)) := keepB pp_9.out hb
  have fp_10 : Hid (Blk w10 (ga + 1) 40 (fltV ((0 : Int), (0 : Int)))) := keepB fp_9.out hb
  have su_10 : Hid (Sl rpStp w10 Du Au nu cu ([] : List Stp)) := keepS su_9.out hb
  have pu_10 : Hid (Blk w10 gb 25 (prjV 0 Au nu cu)) := keepB pu_9.out hb
  have fu_10 : Hid (Blk w10 (gb + 1) 40 (fltV ((9 : Int), (q : Int)))) := keepB fu_9.out hb
  have sr_10 : Hid (Sl rpStp w10 Dr Ar nr cr st) := keepS sr_9.out hb
  have cc_10 : Hid (Blk w10 gc 71 (rdV A l.length c q ((0 : Int), (0 : Int)))) := keepB cc_9.out hb
  have pw_10 : Hid (Blk w10 (gc + 1) 25 (prjV e Ar nr cr)) := keepB pw_9.out hb
  have RD_10 : Hid (Rd w10 D gr l q ((0 : Int), (0 : Int))) := keepR RD_9.out hb
  have sx_10 : Hid (Sl rpStp w10 Dx Ax nx cx st) := keepS sx_9.out hb
  have px_10 : Hid (Blk w10 gx 25 (prjV e Ax nx cx)) := keepB px_9.out hb
  have BB_10 : Hid (Below w.heap.size w w10) := stepB BB_9.out hb
  clear hb
  go_wp2_with fail
  obtain ⟨Ac, hcut, hsc⟩ := run_cut_h elemU (SL_10.out).1 rfl (q : Int) (by omega) (by omega)
  rw [Int.toNat_natCast] at hcut hsc
  have HSC : Hid (Sl rpU8 w10 D Ac q c (l.take q)) := ⟨hsc, (SL_10.out).2⟩
  clear hsc
  have HCK : Hid (∀ w', Below w10.heap.size w10 w' → w'.cell? ⟨ga, 0, none⟩ = some (.int .u64 (e : Int)) ∧ w'.cell? ⟨ga, 1, none⟩ = some (.slice Ap np cp) ∧ w'.cell? ⟨(gc + 1), 0, none⟩ = some (.int .u64 (e : Int)) ∧ w'.cell? ⟨(gc + 1), 1, none⟩ = some (.slice Ar nr cr) ∧ w'.cell? ⟨(ga + 1), 0, none⟩ = some (.int .i64 0) ∧ w'.cell? ⟨(ga + 1), 1, none⟩ = some (.int .i64 0) ∧ w'.cell? ⟨gc, 0, none⟩ = some (.slice A l.length c) ∧ w'.cell? ⟨gc, 1, none⟩ = some (.int .i64 (q : Int)) ∧ w'.cell? ⟨gc, 2, none⟩ = some (.int .i64 0) ∧ w'.cell? ⟨gc, 3, none⟩ = some (.int .i64 0)) := fun w' hb => ⟨(keepB (show Blk w10 ga 25 (prjV e Ap np cp) from pp_10.out) hb).cell 0, (keepB (show Blk w10 ga 25 (prjV e Ap np cp) from pp_10.out) hb).cell 1, (keepB (show Blk w10 (gc + 1) 25 (prjV e Ar nr cr) from pw_10.out) hb).cell 0, (keepB (show Blk w10 (gc + 1) 25 (prjV e Ar nr cr) from pw_10.out) hb).cell 1, (keepB (show Blk w10 (ga + 1) 40 (fltV ((0 : Int), (0 : Int))) from fp_10.out) hb).cell 0, (keepB (show Blk w10 (ga + 1) 40 (fltV ((0 : Int), (0 : Int))) from fp_10.out) hb).cell 1, (keepB (show Blk w10 gc 71 (rdV A l.length c q ((0 : Int), (0 : Int))) from cc_10.out) hb).cell 0, (keepB (show Blk w10 gc 71 (rdV A l.length c q ((0 : Int), (0 : Int))) from cc_10.out) hb).cell 1, (keepB (show Blk w10 gc 71 (rdV A l.length c q ((0 : Int), (0 : Int))) from cc_10.out) hb).cell 2, (keepB (show Blk w10 gc 71 (rdV A l.length c q ((0 : Int), (0 : Int))) from cc_10.out) hb).cell 3⟩
  have hsm := rpsame_any (e := e) (e' := e) (keepS sp_10.out (Below.refl w10.heap.size w10).drew).1 (keepS sr_10.out (Below.refl w10.heap.size w10).drew).1 (keepS sp_10.out (Below.refl w10.heap.size w10).drew).2 (keepS sr_10.out (Below.refl w10.heap.size w10).drew).2
  rw [dec_true rfl] at hsm
  have HSN := Lib.hid hsm
  clear hsm
  have HRT : Hid (∀ w', Below w10.heap.size w10 w' → Calls Try.prog 29 #[.agg (prjV e Ap np cp)] w' fun en w'' => en = .returned (.bool true) ∧ Below w'.heap.size w' w'') := fun w' hb => by have := rpright_any (e := e) (keepS sp_10.out hb).1 (keepS sp_10.out hb).2 he64; rwa [dec_true HOK.out] at this
  have hbe : (prb (e, st) == prb (e, st)) = true := by simp
  have hqq : ((q : Int) != (q : Int)) = false := by simp
  refine wp_region_held_drew (S := fun w' => w'.cell? ⟨ga, 0, none⟩ = some (.int .u64 (e : Int)) ∧ w'.cell? ⟨ga, 1, none⟩ = some (.slice Ap np cp) ∧ w'.cell? ⟨(gc + 1), 0, none⟩ = some (.int .u64 (e : Int)) ∧ w'.cell? ⟨(gc + 1), 1, none⟩ = some (.slice Ar nr cr) ∧ w'.cell? ⟨(ga + 1), 0, none⟩ = some (.int .i64 0) ∧ w'.cell? ⟨(ga + 1), 1, none⟩ = some (.int .i64 0) ∧ w'.cell? ⟨gc, 0, none⟩ = some (.slice A l.length c) ∧ w'.cell? ⟨gc, 1, none⟩ = some (.int .i64 (q : Int)) ∧ w'.cell? ⟨gc, 2, none⟩ = some (.int .i64 0) ∧ w'.cell? ⟨gc, 3, none⟩ = some (.int .i64 0)) (by kernel_rfl) (HCK.out _ (Below.refl _ _).drew) (fun hHeld => ?_)
  refine wpAnyH_take (i := 0) (v := ?_) rfl (by kernel_rfl) (by kernel_rfl) (by kernel_rfl) (fun _ _ _ h => h) (Or.inl ⟨by rfl, ?_⟩) (by assumption) ?_
  rotate_left
  · (intro w hSw; (try dsimp only at hSw); first | (go_simp; done) | (go_simp; with_reducible rfl))
  try simp [Act.put]
  refine wpAnyH_take (i := 1) (v := ?_) rfl (by kernel_rfl) (by kernel_rfl) (by kernel_rfl) (fun _ _ _ h => h) (Or.inl ⟨by rfl, ?_⟩) (by assumption) ?_
  rotate_left
  · (intro w hSw; (try dsimp only at hSw); first | (go_simp; done) | (go_simp; with_reducible rfl))
  try simp [Act.put]
  refine wpAnyH_ready (rs := [2]) (by kernel_rfl) (by simp) ?_
  refine AllReadyH.cons rfl (fun K hK => ?_) AllReadyH.nil
  go_simp
  go_at_call 36
  refine HSN.out.mono ?_; rintro en v1 ⟨rfl, hb⟩
  have HB1 : Hid (Below w10.heap.size w10 v1) := ⟨hb.os, hb.tape, hb.output, hb.size, hb.block⟩
  clear hb
  refine hK.out _ _ (HCK.out _ HB1.out) (fun hHeld2 => ?_)
  clear hK K hHeld
  rename _ => hHeld
  try simp [Act.put]
  refine wpAnyH_take (i := 3) (v := ?_) rfl (by kernel_rfl) (by kernel_rfl) (by kernel_rfl) (fun _ _ _ h => h) (Or.inl ⟨by rfl, ?_⟩) (by assumption) ?_
  rotate_left
  · (intro w hSw; (try dsimp only at hSw); first | (go_simp; done) | (go_simp; with_reducible rfl))
  try simp [Act.put]
  refine wpAnyH_take (i := 4) (v := ?_) rfl (by kernel_rfl) (by kernel_rfl) (by kernel_rfl) (fun _ _ _ h => h) (Or.inl ⟨by rfl, ?_⟩) (by assumption) ?_
  rotate_left
  · (intro w hSw; (try dsimp only at hSw); first | (go_simp; done) | (go_simp; with_reducible rfl))
  try simp [Act.put]
  refine wpAnyH_take (i := 5) (v := ?_) rfl (by kernel_rfl) (by kernel_rfl) (by kernel_rfl) (fun _ _ _ h => h) (Or.inl ⟨by rfl, ?_⟩) (by assumption) ?_
  rotate_left
  · (intro w hSw; (try dsimp only at hSw); first | (go_simp; done) | (go_simp; with_reducible rfl))
  try simp [Act.put]
  refine wpAnyH_take (i := 6) (v := ?_) rfl (by kernel_rfl) (by kernel_rfl) (by kernel_rfl) (fun _ _ _ h => h) (Or.inl ⟨by rfl, ?_⟩) (by assumption) ?_
  rotate_left
  · (intro w hSw; (try dsimp only at hSw); first | (go_simp; done) | (go_simp; with_reducible rfl))
  try simp [Act.put]
  refine wpAnyH_take (i := 7) (v := ?_) rfl (by kernel_rfl) (by kernel_rfl) (by kernel_rfl) (fun _ _ _ h => h) (Or.inl ⟨by rfl, ?_⟩) (by assumption) ?_
  rotate_left
  · (intro w hSw; (try dsimp only at hSw); first | (go_simp; done) | (go_simp; with_reducible rfl))
  try simp [Act.put]
  refine wpAnyH_take (i := 8) (v := ?_) rfl (by kernel_rfl) (by kernel_rfl) (by kernel_rfl) (fun _ _ _ h => h) (Or.inl ⟨by rfl, ?_⟩) (by assumption) ?_
  rotate_left
  · (intro w hSw; (try dsimp only at hSw); first | (go_simp; done) | (go_simp; with_reducible rfl))
  try simp [Act.put]
  refine wpAnyH_take (i := 9) (v := ?_) rfl (by kernel_rfl) (by kernel_rfl) (by kernel_rfl) (fun _ _ _ h => h) (Or.inl ⟨by rfl, ?_⟩) (by assumption) ?_
  rotate_left
  · (intro w hSw; (try dsimp only at hSw); first | (go_simp; done) | (go_simp; with_reducible rfl))
  try simp [Act.put]
  refine wpAnyH_take (i := 10) (v := ?_) rfl (by kernel_rfl) (by kernel_rfl) (by kernel_rfl) (fun _ _ _ h => h) (Or.inl ⟨by rfl, ?_⟩) (by assumption) ?_
  rotate_left
  · (intro w hSw; (try dsimp only at hSw); first | (go_simp; done) | (go_simp; with_reducible rfl))
  try simp [Act.put]
  refine wpAnyH_take (i := 11) (v := ?_) rfl (by kernel_rfl) (by kernel_rfl) (by kernel_rfl) (fun _ _ _ h => h) (Or.inl ⟨by rfl, ?_⟩) (by assumption) ?_
  rotate_left
  · (intro w hSw; (try dsimp only at hSw); first | (go_simp; done) | (go_simp; with_reducible rfl))
  try simp [Act.put]
  refine wpAnyH_take (i := 12) (v := ?_) rfl (by kernel_rfl) (by kernel_rfl) (by kernel_rfl) (fun _ _ _ h => h) (Or.inl ⟨by rfl, ?_⟩) (by assumption) ?_
  rotate_left
  · (intro w hSw; (try dsimp only at hSw); first | (go_simp; done) | (go_simp; with_reducible rfl))
  try simp [Act.put]
  refine wpAnyH_take (i := 13) (v := ?_) rfl (by kernel_rfl) (by kernel_rfl) (by kernel_rfl) (fun _ _ _ h => h) (Or.inl ⟨by rfl, ?_⟩) (by assumption) ?_
  rotate_left
  · (intro w hSw; (try dsimp only at hSw); first | (go_simp; done) | (go_simp; with_reducible rfl))
  try simp [Act.put]
  refine wpAnyH_take (i := 14) (v := ?_) rfl (by kernel_rfl) (by kernel_rfl) (by kernel_rfl) (fun _ _ _ h => h) (Or.inl ⟨by rfl, ?_⟩) (by assumption) ?_
  rotate_left
  · (intro w hSw; (try dsimp only at hSw); first | (go_simp; done) | (go_simp; with_reducible rfl))
  try simp [Act.put]
  refine wpAnyH_take (i := 15) (v := ?_) rfl (by kernel_rfl) (by kernel_rfl) (by kernel_rfl) (fun _ _ _ h => h) (Or.inl ⟨by rfl, ?_⟩) (by assumption) ?_
  rotate_left
  · (intro w hSw; (try dsimp only at hSw); first | (go_simp; done) | (go_simp; with_reducible rfl))
  try simp [Act.put]
  refine wpAnyH_take (i := 16) (v := ?_) rfl (by kernel_rfl) (by kernel_rfl) (by kernel_rfl) (fun _ _ _ h => h) (Or.inl ⟨by rfl, ?_⟩) (by assumption) ?_
  rotate_left
  · (intro w hSw; (try dsimp only at hSw); first | (go_simp; done) | (go_simp; with_reducible rfl))
  try simp [Act.put]
  refine wpAnyH_take (i := 17) (v := ?_) rfl (by kernel_rfl) (by kernel_rfl) (by kernel_rfl) (fun _ _ _ h => h) (Or.inl ⟨by rfl, ?_⟩) (by assumption) ?_
  rotate_left
  · (intro w hSw; (try dsimp only at hSw); first | (go_simp; done) | (go_simp; with_reducible rfl))
  try simp [Act.put]
  refine wpAnyH_take (i := 18) (v := ?_) rfl (by kernel_rfl) (by kernel_rfl) (by kernel_rfl) (fun _ _ _ h => h) (Or.inl ⟨by rfl, ?_⟩) (by assumption) ?_
  rotate_left
  · (intro w hSw; (try dsimp only at hSw); first | (go_simp; done) | (go_simp; with_reducible rfl))
  try simp [Act.put]
  refine wpAnyH_take (i := 19) (v := ?_) rfl (by kernel_rfl) (by kernel_rfl) (by kernel_rfl) (fun _ _ _ h => h) (Or.inl ⟨by rfl, ?_⟩) (by assumption) ?_
  rotate_left
  · (intro w hSw; (try dsimp only at hSw); first | (go_simp; done) | (go_simp; with_reducible rfl))
  try simp [Act.put]
  refine wpAnyH_take (i := 20) (v := ?_) rfl (by kernel_rfl) (by kernel_rfl) (by kernel_rfl) (fun _ _ _ h => h) (Or.inl ⟨by rfl, ?_⟩) (by assumption) ?_
  rotate_left
  · (intro w hSw; (try dsimp only at hSw); first | (go_simp; done) | (go_simp; with_reducible rfl))
  try simp [Act.put]
  refine wpAnyH_take (i := 21) (v := ?_) rfl (by kernel_rfl) (by kernel_rfl) (by kernel_rfl) (fun _ _ _ h => h) (Or.inl ⟨by rfl, ?_⟩) (by assumption) ?_
  rotate_left
  · (intro w hSw; (try dsimp only at hSw); first | (go_simp; done) | (go_simp; with_reducible rfl))
  try simp [Act.put]
  refine wpAnyH_ready (rs := [22]) (by kernel_rfl) (by simp) ?_
  refine AllReadyH.cons rfl (fun K hK => ?_) AllReadyH.nil
  go_simp
  go_at_call 29
  refine (HRT.out _ HB1.out).mono ?_; rintro en v2 ⟨rfl, hb⟩
  have HB2 : Hid (Below w10.heap.size w10 v2) := stepB HB1.out hb
  clear hb
  refine hK.out _ _ (HCK.out _ HB2.out) (fun hHeld2 => ?_)
  clear hK K hHeld
  rename _ => hHeld
  try simp [Act.put]
  refine wpAnyH_take (i := 23) (v := ?_) rfl (by kernel_rfl) (by kernel_rfl) (by kernel_rfl) (fun _ _ _ h => h) (Or.inl ⟨by rfl, ?_⟩) (by assumption) ?_
  rotate_left
  · (intro w hSw; (try dsimp only at hSw); first | (go_simp; done) | (go_simp; with_reducible rfl))
  try simp [Act.put]
  refine wpAnyH_take (i := 24) (v := ?_) rfl (by kernel_rfl) (by kernel_rfl) (by kernel_rfl) (fun _ _ _ h => h) (Or.inl ⟨by rfl, ?_⟩) (by assumption) ?_
  rotate_left
  · (intro w hSw; (try dsimp only at hSw); first | (go_simp; done) | (go_simp; with_reducible rfl))
  try simp [Act.put]
  refine wpAnyH_take (i := 25) (v := ?_) rfl (by kernel_rfl) (by kernel_rfl) (by kernel_rfl) (fun _ _ _ h => h) (Or.inl ⟨by rfl, ?_⟩) (by assumption) ?_
  rotate_left
  · (intro w hSw; (try dsimp only at hSw); first | (go_simp; done) | (go_simp; with_reducible rfl))
  try simp [Act.put]
  refine wpAnyH_take (i := 26) (v := ?_) rfl (by kernel_rfl) (by kernel_rfl) (by kernel_rfl) (fun _ _ _ h => h) (Or.inl ⟨by rfl, ?_⟩) (by assumption) ?_
  rotate_left
  · (intro w hSw; (try dsimp only at hSw); first | (go_simp; done) | (go_simp; with_reducible rfl))
  try simp [Act.put]
  refine wpAnyH_take (i := 28) (v := ?_) rfl (by kernel_rfl) (by kernel_rfl) (by kernel_rfl) (fun _ _ _ h => h) (Or.inl ⟨by rfl, ?_⟩) (by assumption) ?_
  rotate_left
  · (intro w hSw; (try dsimp only at hSw); first | (go_simp; done) | (go_simp; with_reducible rfl))
  try simp [Act.put]
  refine wpAnyH_take (i := 29) (v := ?_) rfl (by kernel_rfl) (by kernel_rfl) (by kernel_rfl) (fun _ _ _ h => h) (Or.inl ⟨by rfl, ?_⟩) (by assumption) ?_
  rotate_left
  · (intro w hSw; (try dsimp only at hSw); first | (go_simp; done) | (go_simp; with_reducible rfl))
  try simp [Act.put]
  refine wpAnyH_take (i := 30) (v := ?_) rfl (by kernel_rfl) (by kernel_rfl) (by kernel_rfl) (fun _ _ _ h => h) (Or.inl ⟨by rfl, ?_⟩) (by assumption) ?_
  rotate_left
  · (intro w hSw; (try dsimp only at hSw); first | (go_simp; done) | (go_simp; with_reducible rfl))
  try simp [Act.put]
  refine wpAnyH_ready (rs := [27]) (by kernel_rfl) (by simp) ?_
  refine AllReadyH.cons rfl (fun K hK => ?_) AllReadyH.nil
  go_simp
  go_at_call 60
  refine (rpb_any (keepS sp_10.out HB2.out).1 (keepS sp_10.out HB2.out).2 HOK.out).mono ?_; rintro en v3 ⟨Ay, ny, cy, rfl, ho, hb⟩
  have HB3 := Lib.hid (stepB HB2.out hb)
  have hsm2 := same_any _ _ _ _ _ _ _ _ _ _ v3 (own_bytes ho) (keepS HSC.out HB3.out).1
  rw [HTK.out, hbe] at hsm2
  have HSM2 := Lib.hid hsm2
  clear hb ho hsm2
  refine hK.out _ _ (HCK.out _ HB3.out) (fun hHeld2 => ?_)
  clear hK K hHeld
  rename _ => hHeld
  try simp [Act.put]
  refine wpAnyH_ready (rs := [31]) (by kernel_rfl) (by simp) ?_
  refine AllReadyH.cons rfl (fun K hK => ?_) AllReadyH.nil
  go_simp
  go_at_call 47
  refine HSM2.out.mono ?_; rintro en v4 ⟨rfl, rfl⟩
  refine hK.out _ _ (HCK.out _ HB3.out) (fun hHeld2 => ?_)
  clear hK K hHeld
  rename _ => hHeld
  try simp [Act.put]
  refine wpAnyH_take (i := 32) (v := ?_) rfl (by kernel_rfl) (by kernel_rfl) (by kernel_rfl) (fun _ _ _ h => h) (Or.inl ⟨by rfl, ?_⟩) (by assumption) ?_
  rotate_left
  · (intro w hSw; (try dsimp only at hSw); first | (go_simp; done) | (go_simp; with_reducible rfl))
  try simp [Act.put]
  refine wpAnyH_take (i := 33) (v := ?_) rfl (by kernel_rfl) (by kernel_rfl) (by kernel_rfl) (fun _ _ _ h => h) (Or.inl ⟨by rfl, ?_⟩) (by assumption) ?_
  rotate_left
  · (intro w hSw; (try dsimp only at hSw); first | (go_simp; done) | (go_simp; with_reducible rfl))
  try simp [Act.put]
  refine wpAnyH_take (i := 34) (v := ?_) rfl (by kernel_rfl) (by kernel_rfl) (by kernel_rfl) (fun _ _ _ h => h) (Or.inl ⟨by rfl, ?_⟩) (by assumption) ?_
  rotate_left
  · (intro w hSw; (try dsimp only at hSw); first | (go_simp; done) | (go_simp; with_reducible rfl))
  try simp [Act.put]
  refine wpAnyH_take (i := 35) (v := ?_) rfl (by kernel_rfl) (by kernel_rfl) (by kernel_rfl) (fun _ _ _ h => h) (Or.inl ⟨by rfl, ?_⟩) (by assumption) ?_
  rotate_left
  · (intro w hSw; (try dsimp only at hSw); first | (go_simp; done) | (go_simp; with_reducible rfl))
  try simp [Act.put]
  refine wpAnyH_take (i := 36) (v := ?_) rfl (by kernel_rfl) (by kernel_rfl) (by kernel_rfl) (fun _ _ _ h => h) (Or.inl ⟨by rfl, ?_⟩) (by assumption) ?_
  rotate_left
  · (intro w hSw; (try dsimp only at hSw); first | (go_simp; done) | (go_simp; with_reducible rfl))
  try simp [Act.put]
  refine wpAnyH_take (i := 37) (v := ?_) rfl (by kernel_rfl) (by kernel_rfl) (by kernel_rfl) (fun _ _ _ h => h) (Or.inl ⟨by rfl, ?_⟩) (by assumption) ?_
  rotate_left
  · (intro w hSw; (try dsimp only at hSw); first | (go_simp; done) | (go_simp; with_reducible rfl))
  try simp [Act.put]
  refine wpAnyH_take (i := 38) (v := ?_) rfl (by kernel_rfl) (by kernel_rfl) (by kernel_rfl) (fun _ _ _ h => h) (Or.inl ⟨by rfl, ?_⟩) (by assumption) ?_
  rotate_left
  · (intro w hSw; (try dsimp only at hSw); first | (go_simp; done) | (go_simp; with_reducible rfl))
  try simp [Act.put]
  refine wpAnyH_take (i := 39) (v := ?_) rfl (by kernel_rfl) (by kernel_rfl) (by kernel_rfl) (fun _ _ _ h => h) (Or.inl ⟨by rfl, ?_⟩) (by assumption) ?_
  rotate_left
  · (intro w hSw; (try dsimp only at hSw); first | (go_simp; done) | (go_simp; with_reducible rfl))
  try simp [Act.put]
  refine wpAnyH_take (i := 40) (v := ?_) rfl (by kernel_rfl) (by kernel_rfl) (by kernel_rfl) (fun _ _ _ h => h) (Or.inl ⟨by rfl, ?_⟩) (by assumption) ?_
  rotate_left
  · (intro w hSw; (try dsimp only at hSw); first | (go_simp; done) | (go_simp; with_reducible rfl))
  try simp [Act.put]
  refine wpAnyH_take (i := 41) (v := ?_) rfl (by kernel_rfl) (by kernel_rfl) (by kernel_rfl) (fun _ _ _ h => h) (Or.inl ⟨by rfl, ?_⟩) (by assumption) ?_
  rotate_left
  · (intro w hSw; (try dsimp only at hSw); first | (go_simp; done) | (go_simp; with_reducible rfl))
  try simp [Act.put]
  refine wpAnyH_take (i := 42) (v := undef) rfl (by kernel_rfl) (by kernel_rfl) (by kernel_rfl) (fun _ _ _ h => h) (Or.inr ⟨by rfl, rfl⟩) (by assumption) ?_
  try simp [Act.put]
  refine wpAnyH_take (i := 43) (v := undef) rfl (by kernel_rfl) (by kernel_rfl) (by kernel_rfl) (fun _ _ _ h => h) (Or.inr ⟨by rfl, rfl⟩) (by assumption) ?_
  try simp [Act.put]
  refine wpAnyH_take (i := 44) (v := ?_) rfl (by kernel_rfl) (by kernel_rfl) (by kernel_rfl) (fun _ _ _ h => h) (Or.inl ⟨by rfl, ?_⟩) (by assumption) ?_
  rotate_left
  · (intro w hSw; (try dsimp only at hSw); first | (go_simp; done) | (go_simp; with_reducible rfl))
  try simp [Act.put]
  refine wpAnyH_take (i := 45) (v := ?_) rfl (by kernel_rfl) (by kernel_rfl) (by kernel_rfl) (fun _ _ _ h => h) (Or.inl ⟨by rfl, ?_⟩) (by assumption) ?_
  rotate_left
  · (intro w hSw; (try dsimp only at hSw); first | (go_simp; done) | (go_simp; with_reducible rfl))
  try simp [Act.put]
  refine wpAnyH_done (by kernel_rfl) ?_ _
  have SL_11 : Hid (Sl rpU8 v3 D A l.length c l) := keepS SL_10.out (HB3.out)
  have sp_11 : Hid (Sl rpStp v3 Dp Ap np cp st) := keepS sp_10.out (HB3.out)
  have pp_11 : Hid (Blk v3 ga 25 (prjV e Ap np cp)) := keepB pp_10.out (HB3.out)
  have fp_11 : Hid (Blk v3 (ga + 1) 40 (fltV ((0 : Int), (0 : Int)))) := keepB fp_10.out (HB3.out)
  have su_11 : Hid (Sl rpStp v3 Du Au nu cu ([] : List Stp)) := keepS su_10.out (HB3.out)
  have pu_11 : Hid (Blk v3 gb 25 (prjV 0 Au nu cu)) := keepB pu_10.out (HB3.out)
  have fu_11 : Hid (Blk v3 (gb + 1) 40 (fltV ((9 : Int), (q : Int)))) := keepB fu_10.out (HB3.out)
  have sr_11 : Hid (Sl rpStp v3 Dr Ar nr cr st) := keepS sr_10.out (HB3.out)
  have cc_11 : Hid (Blk v3 gc 71 (rdV A l.length c q ((0 : Int), (0 : Int)))) := keepB cc_10.out (HB3.out)
  have pw_11 : Hid (Blk v3 (gc + 1) 25 (prjV e Ar nr cr)) := keepB pw_10.out (HB3.out)
  have RD_11 : Hid (Rd v3 D gr l q ((0 : Int), (0 : Int))) := keepR RD_10.out (HB3.out)
  have sx_11 : Hid (Sl rpStp v3 Dx Ax nx cx st) := keepS sx_10.out (HB3.out)
  have px_11 : Hid (Blk v3 gx 25 (prjV e Ax nx cx)) := keepB px_10.out (HB3.out)
  have BB_11 : Hid (Below w.heap.size w v3) := stepB BB_10.out (HB3.out)
  have z_cc0_11 := (show Blk v3 gc 71 (rdV A l.length c q ((0 : Int), (0 : Int))) from cc_11.out).cell 0
  have z_cc1_11 := (show Blk v3 gc 71 (rdV A l.length c q ((0 : Int), (0 : Int))) from cc_11.out).cell 1
  have z_cc2_11 := (show Blk v3 gc 71 (rdV A l.length c q ((0 : Int), (0 : Int))) from cc_11.out).cell 2
  have z_cc3_11 := (show Blk v3 gc 71 (rdV A l.length c q ((0 : Int), (0 : Int))) from cc_11.out).cell 3
  go_wp2_with fail
  refine (HEND.out _).mono ?_; rintro en w12 ⟨rfl, hb⟩
  have SL_12 : Hid (Sl rpU8 w12 D A l.length c l) := keepS SL_11.out hb
  have sp_12 : Hid (Sl rpStp w12 Dp Ap np cp st) := keepS sp_11.out hb
  have pp_12 : Hid (Blk w12 ga 25 (prjV e Ap np cp)) := keepB pp_11.out hb
  have fp_12 : Hid (Blk w12 (ga + 1) 40 (fltV ((0 : Int), (0 : Int)))) := keepB fp_11.out hb
  have su_12 : Hid (Sl rpStp w12 Du Au nu cu ([] : List Stp)) := keepS su_11.out hb
  have pu_12 : Hid (Blk w12 gb 25 (prjV 0 Au nu cu)) := keepB pu_11.out hb
  have fu_12 : Hid (Blk w12 (gb + 1) 40 (fltV ((9 : Int), (q : Int)))) := keepB fu_11.out hb
  have sr_12 : Hid (Sl rpStp w12 Dr Ar nr cr st) := keepS sr_11.out hb
  have cc_12 : Hid (Blk w12 gc 71 (rdV A l.length c q ((0 : Int), (0 : Int)))) := keepB cc_11.out hb
  have pw_12 : Hid (Blk w12 (gc + 1) 25 (prjV e Ar nr cr)) := keepB pw_11.out hb
  have RD_12 : Hid (Rd w12 D gr l q ((0 : Int), (0 : Int))) := keepR RD_11.out hb
  have sx_12 : Hid (Sl rpStp w12 Dx Ax nx cx st) := keepS sx_11.out hb
  have px_12 : Hid (Blk w12 gx 25 (prjV e Ax nx cx)) := keepB px_11.out hb
  have BB_12 : Hid (Below w.heap.size w w12) := stepB BB_11.out hb
  clear z_cc0_11 z_cc1_11 z_cc2_11 z_cc3_11
  clear hb
  go_upto_region 13 with (fail)
  have hb : Below w12.heap.size w12 (w12.alloc (.cells (rdV A l.length c q ((9 : Int), (q : Int))) 71)) := below1 _ (.cells (rdV A l.length c q ((9 : Int), (q : Int))) 71)
  have SL_13 : Hid (Sl rpU8 (w12.alloc (.cells (rdV A l.length c q ((9 : Int), (q : Int))) 71)) D A l.length c l) := keepS SL_12.out hb
  have sp_13 : Hid (Sl rpStp (w12.alloc (.cells (rdV A l.length c q ((9 : Int), (q : Int))) 71)) Dp Ap np cp st) := keepS sp_12.out hb
  have pp_13 : Hid (Blk (w12.alloc (.cells (rdV A l.length c q ((9 : Int), (q : Int))) 71)) ga 25 (prjV e Ap np cp)) := keepB pp_12.out hb
  have fp_13 : Hid (Blk (w12.alloc (.cells (rdV A l.length c q ((9 : Int), (q : Int))) 71)) (ga + 1) 40 (fltV ((0 : Int), (0 : Int)))) := keepB fp_12.out hb
  have su_13 : Hid (Sl rpStp (w12.alloc (.cells (rdV A l.length c q ((9 : Int), (q : Int))) 71)) Du Au nu cu ([] : List Stp)) := keepS su_12.out hb
  have pu_13 : Hid (Blk (w12.alloc (.cells (rdV A l.length c q ((9 : Int), (q : Int))) 71)) gb 25 (prjV 0 Au nu cu)) := keepB pu_12.out hb
  have fu_13 : Hid (Blk (w12.alloc (.cells (rdV A l.length c q ((9 : Int), (q : Int))) 71)) (gb + 1) 40 (fltV ((9 : Int), (q : Int)))) := keepB fu_12.out hb
  have sr_13 : Hid (Sl rpStp (w12.alloc (.cells (rdV A l.length c q ((9 : Int), (q : Int))) 71)) Dr Ar nr cr st) := keepS sr_12.out hb
  have cc_13 : Hid (Blk (w12.alloc (.cells (rdV A l.length c q ((9 : Int), (q : Int))) 71)) gc 71 (rdV A l.length c q ((0 : Int), (0 : Int)))) := keepB cc_12.out hb
  have pw_13 : Hid (Blk (w12.alloc (.cells (rdV A l.length c q ((9 : Int), (q : Int))) 71)) (gc + 1) 25 (prjV e Ar nr cr)) := keepB pw_12.out hb
  have RD_13 : Hid (Rd (w12.alloc (.cells (rdV A l.length c q ((9 : Int), (q : Int))) 71)) D gr l q ((0 : Int), (0 : Int))) := keepR RD_12.out hb
  have sx_13 : Hid (Sl rpStp (w12.alloc (.cells (rdV A l.length c q ((9 : Int), (q : Int))) 71)) Dx Ax nx cx st) := keepS sx_12.out hb
  have px_13 : Hid (Blk (w12.alloc (.cells (rdV A l.length c q ((9 : Int), (q : Int))) 71)) gx 25 (prjV e Ax nx cx)) := keepB px_12.out hb
  have BB_13 : Hid (Below w.heap.size w (w12.alloc (.cells (rdV A l.length c q ((9 : Int), (q : Int))) 71))) := stepB BB_12.out hb
  have sz_12 := BB_12.out.size
  have dd_13 : Hid (Blk (w12.alloc (.cells (rdV A l.length c q ((9 : Int), (q : Int))) 71)) w12.heap.size 71 (rdV A l.length c q ((9 : Int), (q : Int)))) := blk11 _ _ _
  clear hb
  generalize hgd : w12.heap.size = gd at *
  generalize World.alloc w12 _ = w13 at *
  have z_dd2_13 := (show Blk w13 gd 71 (rdV A l.length c q ((9 : Int), (q : Int))) from dd_13.out).cell 2
  have z_dd3_13 := (show Blk w13 gd 71 (rdV A l.length c q ((9 : Int), (q : Int))) from dd_13.out).cell 3
  have z_pu0_13 := (show Blk w13 gb 25 (prjV 0 Au nu cu) from pu_13.out).cell 0
  have z_pu1_13 := (show Blk w13 gb 25 (prjV 0 Au nu cu) from pu_13.out).cell 1
  have z_fu0_13 := (show Blk w13 (gb + 1) 40 (fltV ((9 : Int), (q : Int))) from fu_13.out).cell 0
  have z_fu1_13 := (show Blk w13 (gb + 1) 40 (fltV ((9 : Int), (q : Int))) from fu_13.out).cell 1
  go_wp2_with fail
  have hss := rpsame_any (e := 0) (e' := 0) (su_13.out).1 (show rpStp.sl w13 (fun _ => False) none 0 0 [] from Rp.sl_nil _ _ _ _ _ (by decide)) (su_13.out).2 (fun k hk => hk.elim)
  rw [dec_true rfl] at hss
  have HSU := Lib.hid hss
  clear hss
  refine (HSU.out).mono ?_; rintro en w14 ⟨rfl, hb⟩
  have SL_14 : Hid (Sl rpU8 w14 D A l.length c l) := keepS SL_13.out hb
  have sp_14 : Hid (Sl rpStp w14 Dp Ap np cp st) := keepS sp_13.out hb
  have pp_14 : Hid (Blk w14 ga 25 (prjV e Ap np cp)) := keepB pp_13.out hb
  have fp_14 : Hid (Blk w14 (ga + 1) 40 (fltV ((0 : Int), (0 : Int)))) := keepB fp_13.out hb
  have su_14 : Hid (Sl rpStp w14 Du Au nu cu ([] : List Stp)) := keepS su_13.out hb
  have pu_14 : Hid (Blk w14 gb 25 (prjV 0 Au nu cu)) := keepB pu_13.out hb
  have fu_14 : Hid (Blk w14 (gb + 1) 40 (fltV ((9 : Int), (q : Int)))) := keepB fu_13.out hb
  have sr_14 : Hid (Sl rpStp w14 Dr Ar nr cr st) := keepS sr_13.out hb
  have cc_14 : Hid (Blk w14 gc 71 (rdV A l.length c q ((0 : Int), (0 : Int)))) := keepB cc_13.out hb
  have pw_14 : Hid (Blk w14 (gc + 1) 25 (prjV e Ar nr cr)) := keepB pw_13.out hb
  have RD_14 : Hid (Rd w14 D gr l q ((0 : Int), (0 : Int))) := keepR RD_13.out hb
  have sx_14 : Hid (Sl rpStp w14 Dx Ax nx cx st) := keepS sx_13.out hb
  have px_14 : Hid (Blk w14 gx 25 (prjV e Ax nx cx)) := keepB px_13.out hb
  have dd_14 : Hid (Blk w14 gd 71 (rdV A l.length c q ((9 : Int), (q : Int)))) := keepB dd_13.out hb
  have BB_14 : Hid (Below w.heap.size w w14) := stepB BB_13.out hb
  clear z_dd2_13 z_dd3_13 z_pu0_13 z_pu1_13 z_fu0_13 z_fu1_13
  clear hb
  have z_dd2_14 := (show Blk w14 gd 71 (rdV A l.length c q ((9 : Int), (q : Int))) from dd_14.out).cell 2
  have z_dd3_14 := (show Blk w14 gd 71 (rdV A l.length c q ((9 : Int), (q : Int))) from dd_14.out).cell 3
  have z_fu0_14 := (show Blk w14 (gb + 1) 40 (fltV ((9 : Int), (q : Int))) from fu_14.out).cell 0
  have z_fu1_14 := (show Blk w14 (gb + 1) 40 (fltV ((9 : Int), (q : Int))) from fu_14.out).cell 1
  go_wp2_with fail
  refine (plive_any _).mono ?_; rintro en w15 ⟨rfl, hb⟩
  have SL_15 : Hid (Sl rpU8 w15 D A l.length c l) := keepS SL_14.out hb
  have sp_15 : Hid (Sl rpStp w15 Dp Ap np cp st) := keepS sp_14.out hb
  have pp_15 : Hid (Blk w15 ga 25 (prjV e Ap np cp)) := keepB pp_14.out hb
  have fp_15 : Hid (Blk w15 (ga + 1) 40 (fltV ((0 : Int), (0 : Int)))) := keepB fp_14.out hb
  have su_15 : Hid (Sl rpStp w15 Du Au nu cu ([] : List Stp)) := keepS su_14.out hb
  have pu_15 : Hid (Blk w15 gb 25 (prjV 0 Au nu cu)) := keepB pu_14.out hb
  have fu_15 : Hid (Blk w15 (gb + 1) 40 (fltV ((9 : Int), (q : Int)))) := keepB fu_14.out hb
  have sr_15 : Hid (Sl rpStp w15 Dr Ar nr cr st) := keepS sr_14.out hb
  have cc_15 : Hid (Blk w15 gc 71 (rdV A l.length c q ((0 : Int), (0 : Int)))) := keepB cc_14.out hb
  have pw_15 : Hid (Blk w15 (gc + 1) 25 (prjV e Ar nr cr)) := keepB pw_14.out hb
  have RD_15 : Hid (Rd w15 D gr l q ((0 : Int), (0 : Int))) := keepR RD_14.out hb
  have sx_15 : Hid (Sl rpStp w15 Dx Ax nx cx st) := keepS sx_14.out hb
  have px_15 : Hid (Blk w15 gx 25 (prjV e Ax nx cx)) := keepB px_14.out hb
  have dd_15 : Hid (Blk w15 gd 71 (rdV A l.length c q ((9 : Int), (q : Int)))) := keepB dd_14.out hb
  have BB_15 : Hid (Below w.heap.size w w15) := stepB BB_14.out hb
  clear z_dd2_14 z_dd3_14 z_fu0_14 z_fu1_14
  clear hb
  go_wp2_with fail
  go_ret
  exact ⟨rfl, BB_15.out⟩
set_option maxRecDepth 100000 in
set_option maxHeartbeats 4000000 in
theorem preads_whole (h : rpU8.sl w D A n c l) (hD : ∀ k, D k → k < w.heap.size) (hn : n ≤ 500) (hs : prjF l 0 (0, 0) = ((e, st), q, ((0 : Int), (0 : Int)))) (hq : q = l.length) :
    Calls Try.prog 10 #[.slice A n c] w fun e w' => e = .returned (.bool true) ∧ Below w.heap.size w w' := by
  obtain ⟨hlen, hnc, hcm⟩ := Rp.sl_len h
  unfold maxLen at hcm
  subst hlen
  have hl : l.length ≤ 1000000000 := by omega
  have hqle : q ≤ l.length := by have := prjF_q (l := l) (p := 0) (f := (0, 0)) (Nat.zero_le _); rw [hs] at this; exact this
  have hgn : gotN q ((0 : Int), (0 : Int)) = (q : Int) := if_pos rfl
  have hge : endF l.length q ((0 : Int), (0 : Int)) = ((0 : Int), (0 : Int)) := if_neg (by omega)
  have hgp : gotP (e, st) ((0 : Int), (0 : Int)) = (e, st) := if_pos rfl
  have HNEW : Hid (∀ w', Sl rpU8 w' D A l.length c l → Calls Try.prog 40 #[.slice A l.length c] w' fun e w'' => e = .returned (.pointer (some ⟨w'.heap.size, 0, none⟩)) ∧ Rd w'' D w'.heap.size l 0 (0, 0) ∧ Below w'.heap.size w' w'') := fun w' h => cnew_any h.1 h.2
  have HRD : Hid (∀ (w : World) (g : Nat), Rd w D g l 0 (0, 0) → Calls Try.prog 59 #[.pointer (some ⟨g, 0, none⟩)] w (PrIs w D g l ((e, st), q, ((0 : Int), (0 : Int))))) := fun w g h => by
    have := prread_any h OkF.nil hl
    rw [hs] at this
    exact this
  have HGET : Hid (∀ w', Sl rpU8 w' D A l.length c l → Calls Try.prog 57 #[.slice A l.length c] w' (GetIs w' (e, st) (q : Int) ((0 : Int), (0 : Int)))) := fun w' h => by
    have := prget_any h.1 h.2 hl
    rw [hs] at this
    simp only [hgn] at this
    exact this
  have HDEC : Hid (∀ w', Sl rpU8 w' D A l.length c l → Calls Try.prog 21 #[.slice A l.length c] w' (DecIs w' (e, st) ((0 : Int), (0 : Int)))) := fun w' h => by
    have := prdec_any h.1 h.2 hl
    rw [hs] at this
    simp only [hge, hgp] at this
    exact this
  have HREF : Hid (∀ w', Sl rpU8 w' D A l.length c l → Calls Try.prog 58 #[.agg (rdV A l.length c ((0 : Nat) : Int) (0, 0))] w' (RpIs w' A l.length c ((e, st), q, ((0 : Int), (0 : Int))))) := fun w' h => by
    have := rpread_any h.1 h.2 OkF.nil (Nat.zero_le _) hl
    rw [hs] at this
    exact this
  have HEND : Hid (∀ w' : World, Calls Try.prog 61 #[.agg (rdV A l.length c q ((0 : Int), (0 : Int)))] w' fun e w'' => e = .returned (.agg (rdV A l.length c q ((0 : Int), (0 : Int)))) ∧ Below w'.heap.size w' w'') := fun w' => by
    have := rend_any A l.length c q ((0 : Int), (0 : Int)) w' hqle hl
    rw [hge] at this
    exact this
  have hinv := prjF_inv (l := l) (p := 0) (f := (0, 0)) (Nat.zero_le _) (by rw [hs])
  rw [hs] at hinv
  obtain ⟨hok, hqb, hqq, hst⟩ := hinv
  clear hqq
  simp only [Nat.zero_add] at hok hqb hst
  have htk : l.take q = prb (e, st) := by
    have := hst.eq0 (by rw [← hqb]; exact hqle)
    rw [← hqb] at this; exact this
  have HOK := Lib.hid hok
  have HTK := Lib.hid htk
  have he64 : e ≤ 18446744073709551615 := by have := hok.1.1.1.2; simp only at this; omega
  clear hok hqb hst htk
  have hd500 : decide ((500 : Int) < (l.length : Int)) = false := by simp; omega
  have SL_0 : Hid (Sl rpU8 w D A l.length c l) := ⟨h, hD⟩
  have BB_0 : Hid (Below w.heap.size w w) := Below.refl _ _
  have HQ := Lib.hid hqle
  clear h hD hs hgn hge hgp hq
  go_enter Try.func10, Try.ntmps10
  go_wp2_with fail
  refine (HGET.out _ SL_0.out).mono ?_; rintro en w1 ⟨Ap, np, cp, rfl, hop, hb⟩
  obtain ⟨Dp, hsp⟩ : ∃ Dq, Sl rpStp w1 Dq Ap np cp st := ⟨_, OL.sl hop, fun k hk => hk⟩
  clear hop
  have SL_1 : Hid (Sl rpU8 w1 D A l.length c l) := keepS SL_0.out hb
  have BB_1 : Hid (Below w.heap.size w w1) := stepB BB_0.out hb
  have sp_1 : Hid (Sl rpStp w1 Dp Ap np cp st) := hsp
  clear hb
  clear hsp
  go_upto_region 4 with (fail)
  have hb : Below w1.heap.size w1 ((w1.alloc (.cells (prjV e Ap np cp) 25)).alloc (.cells (fltV ((0 : Int), (0 : Int))) 40)) := below2 _ (.cells (prjV e Ap np cp) 25) (.cells (fltV ((0 : Int), (0 : Int))) 40)
  have SL_2 : Hid (Sl rpU8 ((w1.alloc (.cells (prjV e Ap np cp) 25)).alloc (.cells (fltV ((0 : Int), (0 : Int))) 40)) D A l.length c l) := keepS SL_1.out hb
  have sp_2 : Hid (Sl rpStp ((w1.alloc (.cells (prjV e Ap np cp) 25)).alloc (.cells (fltV ((0 : Int), (0 : Int))) 40)) Dp Ap np cp st) := keepS sp_1.out hb
  have BB_2 : Hid (Below w.heap.size w ((w1.alloc (.cells (prjV e Ap np cp) 25)).alloc (.cells (fltV ((0 : Int), (0 : Int))) 40))) := stepB BB_1.out hb
  have sz_1 := BB_1.out.size
  have pp_2 : Hid (Blk ((w1.alloc (.cells (prjV e Ap np cp) 25)).alloc (.cells (fltV ((0 : Int), (0 : Int))) 40)) w1.heap.size 25 (prjV e Ap np cp)) := blk21 _ _ _ _ _
  have fp_2 : Hid (Blk ((w1.alloc (.cells (prjV e Ap np cp) 25)).alloc (.cells (fltV ((0 : Int), (0 : Int))) 40)) (w1.heap.size + 1) 40 (fltV ((0 : Int), (0 : Int)))) := blk22 _ _ _ _ _
  clear hb
  generalize hga : w1.heap.size = ga at *
  generalize World.alloc (World.alloc w1 _) _ = w2 at *
  go_wp2_with fail
  refine (HDEC.out _ SL_2.out).mono ?_; rintro en w3 ⟨Au, nu, cu, rfl, hou, hb⟩
  obtain ⟨Du, hsu⟩ : ∃ Dq, Sl rpStp w3 Dq Au nu cu st := ⟨_, OL.sl hou, fun k hk => hk⟩
  clear hou
  have SL_3 : Hid (Sl rpU8 w3 D A l.length c l) := keepS SL_2.out hb
  have sp_3 : Hid (Sl rpStp w3 Dp Ap np cp st) := keepS sp_2.out hb
  have pp_3 : Hid (Blk w3 ga 25 (prjV e Ap np cp)) := keepB pp_2.out hb
  have fp_3 : Hid (Blk w3 (ga + 1) 40 (fltV ((0 : Int), (0 : Int)))) := keepB fp_2.out hb
  have BB_3 : Hid (Below w.heap.size w w3) := stepB BB_2.out hb
  have su_3 : Hid (Sl rpStp w3 Du Au nu cu st) := hsu
  clear hb
  clear hsu
  go_upto_region 5 with (fail)
  have hb : Below w3.heap.size w3 ((w3.alloc (.cells (prjV e Au nu cu) 25)).alloc (.cells (fltV ((0 : Int), (0 : Int))) 40)) := below2 _ (.cells (prjV e Au nu cu) 25) (.cells (fltV ((0 : Int), (0 : Int))) 40)
  have SL_4 : Hid (Sl rpU8 ((w3.alloc (.cells (prjV e Au nu cu) 25)).alloc (.cells (fltV ((0 : Int), (0 : Int))) 40)) D A l.length c l) := keepS SL_3.out hb
  have sp_4 : Hid (Sl rpStp ((w3.alloc (.cells (prjV e Au nu cu) 25)).alloc (.cells (fltV ((0 : Int), (0 : Int))) 40)) Dp Ap np cp st) := keepS sp_3.out hb
  have pp_4 : Hid (Blk ((w3.alloc (.cells (prjV e Au nu cu) 25)).alloc (.cells (fltV ((0 : Int), (0 : Int))) 40)) ga 25 (prjV e Ap np cp)) := keepB pp_3.out hb
  have fp_4 : Hid (Blk ((w3.alloc (.cells (prjV e Au nu cu) 25)).alloc (.cells (fltV ((0 : Int), (0 : Int))) 40)) (ga + 1) 40 (fltV ((0 : Int), (0 : Int)))) := keepB fp_3.out hb
  have su_4 : Hid (Sl rpStp ((w3.alloc (.cells (prjV e Au nu cu) 25)).alloc (.cells (fltV ((0 : Int), (0 : Int))) 40)) Du Au nu cu st) := keepS su_3.out hb
  have BB_4 : Hid (Below w.heap.size w ((w3.alloc (.cells (prjV e Au nu cu) 25)).alloc (.cells (fltV ((0 : Int), (0 : Int))) 40))) := stepB BB_3.out hb
  have sz_3 := BB_3.out.size
  have pu_4 : Hid (Blk ((w3.alloc (.cells (prjV e Au nu cu) 25)).alloc (.cells (fltV ((0 : Int), (0 : Int))) 40)) w3.heap.size 25 (prjV e Au nu cu)) := blk21 _ _ _ _ _
  have fu_4 : Hid (Blk ((w3.alloc (.cells (prjV e Au nu cu) 25)).alloc (.cells (fltV ((0 : Int), (0 : Int))) 40)) (w3.heap.size + 1) 40 (fltV ((0 : Int), (0 : Int)))) := blk22 _ _ _ _ _
  clear hb
  generalize hgb : w3.heap.size = gb at *
  generalize World.alloc (World.alloc w3 _) _ = w4 at *
  go_wp2_with fail
  refine (HREF.out _ SL_4.out).mono ?_; rintro en w5 ⟨Ar, nr, cr, rfl, hor, hb⟩
  obtain ⟨Dr, hsr⟩ : ∃ Dq, Sl rpStp w5 Dq Ar nr cr st := ⟨_, OL.sl hor, fun k hk => hk⟩
  clear hor
  have SL_5 : Hid (Sl rpU8 w5 D A l.length c l) := keepS SL_4.out hb
  have sp_5 : Hid (Sl rpStp w5 Dp Ap np cp st) := keepS sp_4.out hb
  have pp_5 : Hid (Blk w5 ga 25 (prjV e Ap np cp)) := keepB pp_4.out hb
  have fp_5 : Hid (Blk w5 (ga + 1) 40 (fltV ((0 : Int), (0 : Int)))) := keepB fp_4.out hb
  have su_5 : Hid (Sl rpStp w5 Du Au nu cu st) := keepS su_4.out hb
  have pu_5 : Hid (Blk w5 gb 25 (prjV e Au nu cu)) := keepB pu_4.out hb
  have fu_5 : Hid (Blk w5 (gb + 1) 40 (fltV ((0 : Int), (0 : Int)))) := keepB fu_4.out hb
  have BB_5 : Hid (Below w.heap.size w w5) := stepB BB_4.out hb
  have sr_5 : Hid (Sl rpStp w5 Dr Ar nr cr st) := hsr
  clear hb
  clear hsr
  go_upto_region 6 with (fail)
  have hb : Below w5.heap.size w5 ((w5.alloc (.cells (rdV A l.length c q ((0 : Int), (0 : Int))) 71)).alloc (.cells (prjV e Ar nr cr) 25)) := below2 _ (.cells (rdV A l.length c q ((0 : Int), (0 : Int))) 71) (.cells (prjV e Ar nr cr) 25)
  have SL_6 : Hid (Sl rpU8 ((w5.alloc (.cells (rdV A l.length c q ((0 : Int), (0 : Int))) 71)).alloc (.cells (prjV e Ar nr cr) 25)) D A l.length c l) := keepS SL_5.out hb
  have sp_6 : Hid (Sl rpStp ((w5.alloc (.cells (rdV A l.length c q ((0 : Int), (0 : Int))) 71)).alloc (.cells (prjV e Ar nr cr) 25)) Dp Ap np cp st) := keepS sp_5.out hb
  have pp_6 : Hid (Blk ((w5.alloc (.cells (rdV A l.length c q ((0 : Int), (0 : Int))) 71)).alloc (.cells (prjV e Ar nr cr) 25)) ga 25 (prjV e Ap np cp)) := keepB pp_5.out hb
  have fp_6 : Hid (Blk ((w5.alloc (.cells (rdV A l.length c q ((0 : Int), (0 : Int))) 71)).alloc (.cells (prjV e Ar nr cr) 25)) (ga + 1) 40 (fltV ((0 : Int), (0 : Int)))) := keepB fp_5.out hb
  have su_6 : Hid (Sl rpStp ((w5.alloc (.cells (rdV A l.length c q ((0 : Int), (0 : Int))) 71)).alloc (.cells (prjV e Ar nr cr) 25)) Du Au nu cu st) := keepS su_5.out hb
  have pu_6 : Hid (Blk ((w5.alloc (.cells (rdV A l.length c q ((0 : Int), (0 : Int))) 71)).alloc (.cells (prjV e Ar nr cr) 25)) gb 25 (prjV e Au nu cu)) := keepB pu_5.out hb
  have fu_6 : Hid (Blk ((w5.alloc (.cells (rdV A l.length c q ((0 : Int), (0 : Int))) 71)).alloc (.cells (prjV e Ar nr cr) 25)) (gb + 1) 40 (fltV ((0 : Int), (0 : Int)))) := keepB fu_5.out hb
  have sr_6 : Hid (Sl rpStp ((w5.alloc (.cells (rdV A l.length c q ((0 : Int), (0 : Int))) 71)).alloc (.cells (prjV e Ar nr cr) 25)) Dr Ar nr cr st) := keepS sr_5.out hb
  have BB_6 : Hid (Below w.heap.size w ((w5.alloc (.cells (rdV A l.length c q ((0 : Int), (0 : Int))) 71)).alloc (.cells (prjV e Ar nr cr) 25))) := stepB BB_5.out hb
  have sz_5 := BB_5.out.size
  have cc_6 : Hid (Blk ((w5.alloc (.cells (rdV A l.length c q ((0 : Int), (0 : Int))) 71)).alloc (.cells (prjV e Ar nr cr) 25)) w5.heap.size 71 (rdV A l.length c q ((0 : Int), (0 : Int)))) := blk21 _ _ _ _ _
  have pw_6 : Hid (Blk ((w5.alloc (.cells (rdV A l.length c q ((0 : Int), (0 : Int))) 71)).alloc (.cells (prjV e Ar nr cr) 25)) (w5.heap.size + 1) 25 (prjV e Ar nr cr)) := blk22 _ _ _ _ _
  clear hb
  generalize hgc : w5.heap.size = gc at *
  generalize World.alloc (World.alloc w5 _) _ = w6 at *
  go_wp2_with fail
  refine (HNEW.out _ SL_6.out).mono ?_; rintro en w7 ⟨rfl, hr, hb⟩
  obtain ⟨gr, hgr⟩ : ∃ gr, gr = w6.heap.size := ⟨_, rfl⟩
  rw [← hgr] at hr
  have SL_7 : Hid (Sl rpU8 w7 D A l.length c l) := keepS SL_6.out hb
  have sp_7 : Hid (Sl rpStp w7 Dp Ap np cp st) := keepS sp_6.out hb
  have pp_7 : Hid (Blk w7 ga 25 (prjV e Ap np cp)) := keepB pp_6.out hb
  have fp_7 : Hid (Blk w7 (ga + 1) 40 (fltV ((0 : Int), (0 : Int)))) := keepB fp_6.out hb
  have su_7 : Hid (Sl rpStp w7 Du Au nu cu st) := keepS su_6.out hb
  have pu_7 : Hid (Blk w7 gb 25 (prjV e Au nu cu)) := keepB pu_6.out hb
  have fu_7 : Hid (Blk w7 (gb + 1) 40 (fltV ((0 : Int), (0 : Int)))) := keepB fu_6.out hb
  have sr_7 : Hid (Sl rpStp w7 Dr Ar nr cr st) := keepS sr_6.out hb
  have cc_7 : Hid (Blk w7 gc 71 (rdV A l.length c q ((0 : Int), (0 : Int)))) := keepB cc_6.out hb
  have pw_7 : Hid (Blk w7 (gc + 1) 25 (prjV e Ar nr cr)) := keepB pw_6.out hb
  have BB_7 : Hid (Below w.heap.size w w7) := stepB BB_6.out hb
  have RD_7 : Hid (Rd w7 D gr l 0 (0, 0)) := hr
  clear hb
  clear hr
  rw [← hgr]
  have HGR := Lib.hid hgr
  clear hgr
  go_wp2_with fail
  refine (HRD.out _ _ RD_7.out).mono ?_; rintro en w8 ⟨Ax, nx, cx, rfl, hox, hr, hc⟩
  obtain ⟨Dx, hsx⟩ : ∃ Dq, Sl rpStp w8 Dq Ax nx cx st := ⟨_, OL.sl hox, fun k hk => hk⟩
  clear hox
  have SL_8 : Hid (Sl rpU8 w8 D A l.length c l) := chS SL_7.out hc (fun k hk eq0 => by have eq1 : k = gr := eq0; have h1 := (SL_6.out).2 k hk; have := HGR.out; omega)
  have sp_8 : Hid (Sl rpStp w8 Dp Ap np cp st) := chS sp_7.out hc (fun k hk eq0 => by have eq1 : k = gr := eq0; have h1 := (sp_6.out).2 k hk; have := HGR.out; omega)
  have pp_8 : Hid (Blk w8 ga 25 (prjV e Ap np cp)) := chB pp_7.out hc (fun eq0 => by have eq1 : _ = gr := eq0; have h1 := (show Blk w6 ga 25 (prjV e Ap np cp) from pp_6.out).lt; have := HGR.out; omega)
  have fp_8 : Hid (Blk w8 (ga + 1) 40 (fltV ((0 : Int), (0 : Int)))) := chB fp_7.out hc (fun eq0 => by have eq1 : _ = gr := eq0; have h1 := (show Blk w6 (ga + 1) 40 (fltV ((0 : Int), (0 : Int))) from fp_6.out).lt; have := HGR.out; omega)
  have su_8 : Hid (Sl rpStp w8 Du Au nu cu st) := chS su_7.out hc (fun k hk eq0 => by have eq1 : k = gr := eq0; have h1 := (su_6.out).2 k hk; have := HGR.out; omega)
  have pu_8 : Hid (Blk w8 gb 25 (prjV e Au nu cu)) := chB pu_7.out hc (fun eq0 => by have eq1 : _ = gr := eq0; have h1 := (show Blk w6 gb 25 (prjV e Au nu cu) from pu_6.out).lt; have := HGR.out; omega)
  have fu_8 : Hid (Blk w8 (gb + 1) 40 (fltV ((0 : Int), (0 : Int)))) := chB fu_7.out hc (fun eq0 => by have eq1 : _ = gr := eq0; have h1 := (show Blk w6 (gb + 1) 40 (fltV ((0 : Int), (0 : Int))) from fu_6.out).lt; have := HGR.out; omega)
  have sr_8 : Hid (Sl rpStp w8 Dr Ar nr cr st) := chS sr_7.out hc (fun k hk eq0 => by have eq1 : k = gr := eq0; have h1 := (sr_6.out).2 k hk; have := HGR.out; omega)
  have cc_8 : Hid (Blk w8 gc 71 (rdV A l.length c q ((0 : Int), (0 : Int)))) := chB cc_7.out hc (fun eq0 => by have eq1 : _ = gr := eq0; have h1 := (show Blk w6 gc 71 (rdV A l.length c q ((0 : Int), (0 : Int))) from cc_6.out).lt; have := HGR.out; omega)
  have pw_8 : Hid (Blk w8 (gc + 1) 25 (prjV e Ar nr cr)) := chB pw_7.out hc (fun eq0 => by have eq1 : _ = gr := eq0; have h1 := (show Blk w6 (gc + 1) 25 (prjV e Ar nr cr) from pw_6.out).lt; have := HGR.out; omega)
  have BB_8 : Hid (Below w.heap.size w w8) := chBase BB_7.out hc (fun k hk => by have e : k = gr := hk; have h1 := HGR.out; have h2 := BB_6.out.size; omega)
  have RD_8 : Hid (Rd w8 D gr l q ((0 : Int), (0 : Int))) := hr
  have sx_8 : Hid (Sl rpStp w8 Dx Ax nx cx st) := hsx
  clear hr hc hsx
  go_wp2_with fail
  have hb : Below w8.heap.size w8 (w8.alloc (.cells (prjV e Ax nx cx) 25)) := below1 _ (.cells (prjV e Ax nx cx) 25)
  have SL_9 : Hid (Sl rpU8 (w8.alloc (.cells (prjV e Ax nx cx) 25)) D A l.length c l) := keepS SL_8.out hb
  have sp_9 : Hid (Sl rpStp (w8.alloc (.cells (prjV e Ax nx cx) 25)) Dp Ap np cp st) := keepS sp_8.out hb
  have pp_9 : Hid (Blk (w8.alloc (.cells (prjV e Ax nx cx) 25)) ga 25 (prjV e Ap np cp)) := keepB pp_8.out hb
  have fp_9 : Hid (Blk (w8.alloc (.cells (prjV e Ax nx cx) 25)) (ga + 1) 40 (fltV ((0 : Int), (0 : Int)))) := keepB fp_8.out hb
  have su_9 : Hid (Sl rpStp (w8.alloc (.cells (prjV e Ax nx cx) 25)) Du Au nu cu st) := keepS su_8.out hb
  have pu_9 : Hid (Blk (w8.alloc (.cells (prjV e Ax nx cx) 25)) gb 25 (prjV e Au nu cu)) := keepB pu_8.out hb
  have fu_9 : Hid (Blk (w8.alloc (.cells (prjV e Ax nx cx) 25)) (gb + 1) 40 (fltV ((0 : Int), (0 : Int)))) := keepB fu_8.out hb
  have sr_9 : Hid (Sl rpStp (w8.alloc (.cells (prjV e Ax nx cx) 25)) Dr Ar nr cr st) := keepS sr_8.out hb
  have cc_9 : Hid (Blk (w8.alloc (.cells (prjV e Ax nx cx) 25)) gc 71 (rdV A l.length c q ((0 : Int), (0 : Int)))) := keepB cc_8.out hb
  have pw_9 : Hid (Blk (w8.alloc (.cells (prjV e Ax nx cx) 25)) (gc + 1) 25 (prjV e Ar nr cr)) := keepB pw_8.out hb
  have RD_9 : Hid (Rd (w8.alloc (.cells (prjV e Ax nx cx) 25)) D gr l q ((0 : Int), (0 : Int))) := keepR RD_8.out hb
  have sx_9 : Hid (Sl rpStp (w8.alloc (.cells (prjV e Ax nx cx) 25)) Dx Ax nx cx st) := keepS sx_8.out hb
  have BB_9 : Hid (Below w.heap.size w (w8.alloc (.cells (prjV e Ax nx cx) 25))) := stepB BB_8.out hb
  have sz_8 := BB_8.out.size
  have px_9 : Hid (Blk (w8.alloc (.cells (prjV e Ax nx cx) 25)) w8.heap.size 25 (prjV e Ax nx cx)) := blk11 _ _ _
  clear hb
  generalize hgx : w8.heap.size = gx at *
  generalize World.alloc w8 _ = w9 at *
  have zq_px0_9 : ∀ x : Gr w9.heap.size w9, x.val.cell? ⟨gx, 0, none⟩ = _ := fun x => (keepB (show Blk w9 gx 25 (prjV e Ax nx cx) from px_9.out) x.is).cell 0
  have zq_px1_9 : ∀ x : Gr w9.heap.size w9, x.val.cell? ⟨gx, 1, none⟩ = _ := fun x => (keepB (show Blk w9 gx 25 (prjV e Ax nx cx) from px_9.out) x.is).cell 1
  have zq_pw0_9 : ∀ x : Gr w9.heap.size w9, x.val.cell? ⟨(gc + 1), 0, none⟩ = _ := fun x => (keepB (show Blk w9 (gc + 1) 25 (prjV e Ar nr cr) from pw_9.out) x.is).cell 0
  have zq_pw1_9 : ∀ x : Gr w9.heap.size w9, x.val.cell? ⟨(gc + 1), 1, none⟩ = _ := fun x => (keepB (show Blk w9 (gc + 1) 25 (prjV e Ar nr cr) from pw_9.out) x.is).cell 1
  have zq_cc2_9 : ∀ x : Gr w9.heap.size w9, x.val.cell? ⟨gc, 2, none⟩ = _ := fun x => (keepB (show Blk w9 gc 71 (rdV A l.length c q ((0 : Int), (0 : Int))) from cc_9.out) x.is).cell 2
  have zq_cc3_9 : ∀ x : Gr w9.heap.size w9, x.val.cell? ⟨gc, 3, none⟩ = _ := fun x => (keepB (show Blk w9 gc 71 (rdV A l.length c q ((0 : Int), (0 : Int))) from cc_9.out) x.is).cell 3
  have RQ : Hid (∀ x : Gr w9.heap.size w9, Rd x.val D gr l q ((0 : Int), (0 : Int))) := fun x => keepR (show Rd w9 D gr l q ((0 : Int), (0 : Int)) from RD_9.out) x.is
  have hsm := fun qq : Gr w9.heap.size w9 => rpsame_any (e := e) (e' := e) (keepS sx_9.out qq.is).1 (keepS sr_9.out qq.is).1 (keepS sx_9.out qq.is).2 (keepS sr_9.out qq.is).2
  rw [dec_true rfl] at hsm
  have HSM := Lib.hid hsm
  clear hsm
  refine wp_region_grow (by kernel_rfl) (by kernel_rfl) w9.heap.size ?_
  repeat (first | go_big_quiet_step ((first | (go_at_call 36; exact Gr.call _ (Nat.le_refl _) (HSM.out _)) | (go_at_call 44; exact Gr.call _ (Nat.le_refl _) (cfault_at (RQ.out _))))) | quiet_step ((first | (go_at_call 36; exact Gr.call _ (Nat.le_refl _) (HSM.out _)) | (go_at_call 44; exact Gr.call _ (Nat.le_refl _) (cfault_at (RQ.out _))))))
  refine wpQuiet_nil ?_
  rintro w10 ⟨⟨_, hb⟩, rfl⟩
  clear zq_px0_9 zq_px1_9 zq_pw0_9 zq_pw1_9 zq_cc2_9 zq_cc3_9 RQ
  have SL_10 : Hid (Sl rpU8 w10 D A l.length c l) := keepS SL_9.out hb
  have sp_10 : Hid (Sl rpStp w10 Dp Ap np cp st) := keepS sp_9.out hb
  have pp_10 : Hid (Blk w10 ga 25 (prjV e Ap np cp)) := keepB pp_9.out hb
  have fp_10 : Hid (Blk w10 (ga + 1) 40 (fltV ((0 : Int), (0 : Int)))) := keepB fp_9.out hb
  have su_10 : Hid (Sl rpStp w10 Du Au nu cu st) := keepS su_9.out hb
  have pu_10 : Hid (Blk w10 gb 25 (prjV e Au nu cu)) := keepB pu_9.out hb
  have fu_10 : Hid (Blk w10 (gb + 1) 40 (fltV ((0 : Int), (0 : Int)))) := keepB fu_9.out hb
  have sr_10 : Hid (Sl rpStp w10 Dr Ar nr cr st) := keepS sr_9.out hb
  have cc_10 : Hid (Blk w10 gc 71 (rdV A l.length c q ((0 : Int), (0 : Int)))) := keepB cc_9.out hb
  have pw_10 : Hid (Blk w10 (gc + 1) 25 (prjV e Ar nr cr)) := keepB pw_9.out hb
  have RD_10 : Hid (Rd w10 D gr l q ((0 : Int), (0 : Int))) := keepR RD_9.out hb
  have sx_10 : Hid (Sl rpStp w10 Dx Ax nx cx st) := keepS sx_9.out hb
  have px_10 : Hid (Blk w10 gx 25 (prjV e Ax nx cx)) := keepB px_9.out hb
  have BB_10 : Hid (Below w.heap.size w w10) := stepB BB_9.out hb
  clear hb
  go_wp2_with fail
  obtain ⟨Ac, hcut, hsc⟩ := run_cut_h elemU (SL_10.out).1 rfl (q : Int) (by omega) (by omega)
  rw [Int.toNat_natCast] at hcut hsc
  have HSC : Hid (Sl rpU8 w10 D Ac q c (l.take q)) := ⟨hsc, (SL_10.out).2⟩
  clear hsc
  have HCK : Hid (∀ w', Below w10.heap.size w10 w' → w'.cell? ⟨ga, 0, none⟩ = some (.int .u64 (e : Int)) ∧ w'.cell? ⟨ga, 1, none⟩ = some (.slice Ap np cp) ∧ w'.cell? ⟨(gc + 1), 0, none⟩ = some (.int .u64 (e : Int)) ∧ w'.cell? ⟨(gc + 1), 1, none⟩ = some (.slice Ar nr cr) ∧ w'.cell? ⟨(ga + 1), 0, none⟩ = some (.int .i64 0) ∧ w'.cell? ⟨(ga + 1), 1, none⟩ = some (.int .i64 0) ∧ w'.cell? ⟨gc, 0, none⟩ = some (.slice A l.length c) ∧ w'.cell? ⟨gc, 1, none⟩ = some (.int .i64 (q : Int)) ∧ w'.cell? ⟨gc, 2, none⟩ = some (.int .i64 0) ∧ w'.cell? ⟨gc, 3, none⟩ = some (.int .i64 0)) := fun w' hb => ⟨(keepB (show Blk w10 ga 25 (prjV e Ap np cp) from pp_10.out) hb).cell 0, (keepB (show Blk w10 ga 25 (prjV e Ap np cp) from pp_10.out) hb).cell 1, (keepB (show Blk w10 (gc + 1) 25 (prjV e Ar nr cr) from pw_10.out) hb).cell 0, (keepB (show Blk w10 (gc + 1) 25 (prjV e Ar nr cr) from pw_10.out) hb).cell 1, (keepB (show Blk w10 (ga + 1) 40 (fltV ((0 : Int), (0 : Int))) from fp_10.out) hb).cell 0, (keepB (show Blk w10 (ga + 1) 40 (fltV ((0 : Int), (0 : Int))) from fp_10.out) hb).cell 1, (keepB (show Blk w10 gc 71 (rdV A l.length c q ((0 : Int), (0 : Int))) from cc_10.out) hb).cell 0, (keepB (show Blk w10 gc 71 (rdV A l.length c q ((0 : Int), (0 : Int))) from cc_10.out) hb).cell 1, (keepB (show Blk w10 gc 71 (rdV A l.length c q ((0 : Int), (0 : Int))) from cc_10.out) hb).cell 2, (keepB (show Blk w10 gc 71 (rdV A l.length c q ((0 : Int), (0 : Int))) from cc_10.out) hb).cell 3⟩
  have hsm := rpsame_any (e := e) (e' := e) (keepS sp_10.out (Below.refl w10.heap.size w10).drew).1 (keepS sr_10.out (Below.refl w10.heap.size w10).drew).1 (keepS sp_10.out (Below.refl w10.heap.size w10).drew).2 (keepS sr_10.out (Below.refl w10.heap.size w10).drew).2
  rw [dec_true rfl] at hsm
  have HSN := Lib.hid hsm
  clear hsm
  have HRT : Hid (∀ w', Below w10.heap.size w10 w' → Calls Try.prog 29 #[.agg (prjV e Ap np cp)] w' fun en w'' => en = .returned (.bool true) ∧ Below w'.heap.size w' w'') := fun w' hb => by have := rpright_any (e := e) (keepS sp_10.out hb).1 (keepS sp_10.out hb).2 he64; rwa [dec_true HOK.out] at this
  have hbe : (prb (e, st) == prb (e, st)) = true := by simp
  have hqq : ((q : Int) != (q : Int)) = false := by simp
  refine wp_region_held_drew (S := fun w' => w'.cell? ⟨ga, 0, none⟩ = some (.int .u64 (e : Int)) ∧ w'.cell? ⟨ga, 1, none⟩ = some (.slice Ap np cp) ∧ w'.cell? ⟨(gc + 1), 0, none⟩ = some (.int .u64 (e : Int)) ∧ w'.cell? ⟨(gc + 1), 1, none⟩ = some (.slice Ar nr cr) ∧ w'.cell? ⟨(ga + 1), 0, none⟩ = some (.int .i64 0) ∧ w'.cell? ⟨(ga + 1), 1, none⟩ = some (.int .i64 0) ∧ w'.cell? ⟨gc, 0, none⟩ = some (.slice A l.length c) ∧ w'.cell? ⟨gc, 1, none⟩ = some (.int .i64 (q : Int)) ∧ w'.cell? ⟨gc, 2, none⟩ = some (.int .i64 0) ∧ w'.cell? ⟨gc, 3, none⟩ = some (.int .i64 0)) (by kernel_rfl) (HCK.out _ (Below.refl _ _).drew) (fun hHeld => ?_)
  refine wpAnyH_take (i := 0) (v := ?_) rfl (by kernel_rfl) (by kernel_rfl) (by kernel_rfl) (fun _ _ _ h => h) (Or.inl ⟨by rfl, ?_⟩) (by assumption) ?_
  rotate_left
  · (intro w hSw; (try dsimp only at hSw); first | (go_simp; done) | (go_simp; with_reducible rfl))
  try simp [Act.put]
  refine wpAnyH_take (i := 1) (v := ?_) rfl (by kernel_rfl) (by kernel_rfl) (by kernel_rfl) (fun _ _ _ h => h) (Or.inl ⟨by rfl, ?_⟩) (by assumption) ?_
  rotate_left
  · (intro w hSw; (try dsimp only at hSw); first | (go_simp; done) | (go_simp; with_reducible rfl))
  try simp [Act.put]
  refine wpAnyH_ready (rs := [2]) (by kernel_rfl) (by simp) ?_
  refine AllReadyH.cons rfl (fun K hK => ?_) AllReadyH.nil
  go_simp
  go_at_call 36
  refine HSN.out.mono ?_; rintro en v1 ⟨rfl, hb⟩
  have HB1 : Hid (Below w10.heap.size w10 v1) := ⟨hb.os, hb.tape, hb.output, hb.size, hb.block⟩
  clear hb
  refine hK.out _ _ (HCK.out _ HB1.out) (fun hHeld2 => ?_)
  clear hK K hHeld
  rename _ => hHeld
  try simp [Act.put]
  refine wpAnyH_take (i := 3) (v := ?_) rfl (by kernel_rfl) (by kernel_rfl) (by kernel_rfl) (fun _ _ _ h => h) (Or.inl ⟨by rfl, ?_⟩) (by assumption) ?_
  rotate_left
  · (intro w hSw; (try dsimp only at hSw); first | (go_simp; done) | (go_simp; with_reducible rfl))
  try simp [Act.put]
  refine wpAnyH_take (i := 4) (v := ?_) rfl (by kernel_rfl) (by kernel_rfl) (by kernel_rfl) (fun _ _ _ h => h) (Or.inl ⟨by rfl, ?_⟩) (by assumption) ?_
  rotate_left
  · (intro w hSw; (try dsimp only at hSw); first | (go_simp; done) | (go_simp; with_reducible rfl))
  try simp [Act.put]
  refine wpAnyH_take (i := 5) (v := ?_) rfl (by kernel_rfl) (by kernel_rfl) (by kernel_rfl) (fun _ _ _ h => h) (Or.inl ⟨by rfl, ?_⟩) (by assumption) ?_
  rotate_left
  · (intro w hSw; (try dsimp only at hSw); first | (go_simp; done) | (go_simp; with_reducible rfl))
  try simp [Act.put]
  refine wpAnyH_take (i := 6) (v := ?_) rfl (by kernel_rfl) (by kernel_rfl) (by kernel_rfl) (fun _ _ _ h => h) (Or.inl ⟨by rfl, ?_⟩) (by assumption) ?_
  rotate_left
  · (intro w hSw; (try dsimp only at hSw); first | (go_simp; done) | (go_simp; with_reducible rfl))
  try simp [Act.put]
  refine wpAnyH_take (i := 7) (v := ?_) rfl (by kernel_rfl) (by kernel_rfl) (by kernel_rfl) (fun _ _ _ h => h) (Or.inl ⟨by rfl, ?_⟩) (by assumption) ?_
  rotate_left
  · (intro w hSw; (try dsimp only at hSw); first | (go_simp; done) | (go_simp; with_reducible rfl))
  try simp [Act.put]
  refine wpAnyH_take (i := 8) (v := ?_) rfl (by kernel_rfl) (by kernel_rfl) (by kernel_rfl) (fun _ _ _ h => h) (Or.inl ⟨by rfl, ?_⟩) (by assumption) ?_
  rotate_left
  · (intro w hSw; (try dsimp only at hSw); first | (go_simp; done) | (go_simp; with_reducible rfl))
  try simp [Act.put]
  refine wpAnyH_take (i := 9) (v := ?_) rfl (by kernel_rfl) (by kernel_rfl) (by kernel_rfl) (fun _ _ _ h => h) (Or.inl ⟨by rfl, ?_⟩) (by assumption) ?_
  rotate_left
  · (intro w hSw; (try dsimp only at hSw); first | (go_simp; done) | (go_simp; with_reducible rfl))
  try simp [Act.put]
  refine wpAnyH_take (i := 10) (v := ?_) rfl (by kernel_rfl) (by kernel_rfl) (by kernel_rfl) (fun _ _ _ h => h) (Or.inl ⟨by rfl, ?_⟩) (by assumption) ?_
  rotate_left
  · (intro w hSw; (try dsimp only at hSw); first | (go_simp; done) | (go_simp; with_reducible rfl))
  try simp [Act.put]
  refine wpAnyH_take (i := 11) (v := ?_) rfl (by kernel_rfl) (by kernel_rfl) (by kernel_rfl) (fun _ _ _ h => h) (Or.inl ⟨by rfl, ?_⟩) (by assumption) ?_
  rotate_left
  · (intro w hSw; (try dsimp only at hSw); first | (go_simp; done) | (go_simp; with_reducible rfl))
  try simp [Act.put]
  refine wpAnyH_take (i := 12) (v := ?_) rfl (by kernel_rfl) (by kernel_rfl) (by kernel_rfl) (fun _ _ _ h => h) (Or.inl ⟨by rfl, ?_⟩) (by assumption) ?_
  rotate_left
  · (intro w hSw; (try dsimp only at hSw); first | (go_simp; done) | (go_simp; with_reducible rfl))
  try simp [Act.put]
  refine wpAnyH_take (i := 13) (v := ?_) rfl (by kernel_rfl) (by kernel_rfl) (by kernel_rfl) (fun _ _ _ h => h) (Or.inl ⟨by rfl, ?_⟩) (by assumption) ?_
  rotate_left
  · (intro w hSw; (try dsimp only at hSw); first | (go_simp; done) | (go_simp; with_reducible rfl))
  try simp [Act.put]
  refine wpAnyH_take (i := 14) (v := ?_) rfl (by kernel_rfl) (by kernel_rfl) (by kernel_rfl) (fun _ _ _ h => h) (Or.inl ⟨by rfl, ?_⟩) (by assumption) ?_
  rotate_left
  · (intro w hSw; (try dsimp only at hSw); first | (go_simp; done) | (go_simp; with_reducible rfl))
  try simp [Act.put]
  refine wpAnyH_take (i := 15) (v := ?_) rfl (by kernel_rfl) (by kernel_rfl) (by kernel_rfl) (fun _ _ _ h => h) (Or.inl ⟨by rfl, ?_⟩) (by assumption) ?_
  rotate_left
  · (intro w hSw; (try dsimp only at hSw); first | (go_simp; done) | (go_simp; with_reducible rfl))
  try simp [Act.put]
  refine wpAnyH_take (i := 16) (v := ?_) rfl (by kernel_rfl) (by kernel_rfl) (by kernel_rfl) (fun _ _ _ h => h) (Or.inl ⟨by rfl, ?_⟩) (by assumption) ?_
  rotate_left
  · (intro w hSw; (try dsimp only at hSw); first | (go_simp; done) | (go_simp; with_reducible rfl))
  try simp [Act.put]
  refine wpAnyH_take (i := 17) (v := ?_) rfl (by kernel_rfl) (by kernel_rfl) (by kernel_rfl) (fun _ _ _ h => h) (Or.inl ⟨by rfl, ?_⟩) (by assumption) ?_
  rotate_left
  · (intro w hSw; (try dsimp only at hSw); first | (go_simp; done) | (go_simp; with_reducible rfl))
  try simp [Act.put]
  refine wpAnyH_take (i := 18) (v := ?_) rfl (by kernel_rfl) (by kernel_rfl) (by kernel_rfl) (fun _ _ _ h => h) (Or.inl ⟨by rfl, ?_⟩) (by assumption) ?_
  rotate_left
  · (intro w hSw; (try dsimp only at hSw); first | (go_simp; done) | (go_simp; with_reducible rfl))
  try simp [Act.put]
  refine wpAnyH_take (i := 19) (v := ?_) rfl (by kernel_rfl) (by kernel_rfl) (by kernel_rfl) (fun _ _ _ h => h) (Or.inl ⟨by rfl, ?_⟩) (by assumption) ?_
  rotate_left
  · (intro w hSw; (try dsimp only at hSw); first | (go_simp; done) | (go_simp; with_reducible rfl))
  try simp [Act.put]
  refine wpAnyH_take (i := 20) (v := ?_) rfl (by kernel_rfl) (by kernel_rfl) (by kernel_rfl) (fun _ _ _ h => h) (Or.inl ⟨by rfl, ?_⟩) (by assumption) ?_
  rotate_left
  · (intro w hSw; (try dsimp only at hSw); first | (go_simp; done) | (go_simp; with_reducible rfl))
  try simp [Act.put]
  refine wpAnyH_take (i := 21) (v := ?_) rfl (by kernel_rfl) (by kernel_rfl) (by kernel_rfl) (fun _ _ _ h => h) (Or.inl ⟨by rfl, ?_⟩) (by assumption) ?_
  rotate_left
  · (intro w hSw; (try dsimp only at hSw); first | (go_simp; done) | (go_simp; with_reducible rfl))
  try simp [Act.put]
  refine wpAnyH_ready (rs := [22]) (by kernel_rfl) (by simp) ?_
  refine AllReadyH.cons rfl (fun K hK => ?_) AllReadyH.nil
  go_simp
  go_at_call 29
  refine (HRT.out _ HB1.out).mono ?_; rintro en v2 ⟨rfl, hb⟩
  have HB2 : Hid (Below w10.heap.size w10 v2) := stepB HB1.out hb
  clear hb
  refine hK.out _ _ (HCK.out _ HB2.out) (fun hHeld2 => ?_)
  clear hK K hHeld
  rename _ => hHeld
  try simp [Act.put]
  refine wpAnyH_take (i := 23) (v := ?_) rfl (by kernel_rfl) (by kernel_rfl) (by kernel_rfl) (fun _ _ _ h => h) (Or.inl ⟨by rfl, ?_⟩) (by assumption) ?_
  rotate_left
  · (intro w hSw; (try dsimp only at hSw); first | (go_simp; done) | (go_simp; with_reducible rfl))
  try simp [Act.put]
  refine wpAnyH_take (i := 24) (v := ?_) rfl (by kernel_rfl) (by kernel_rfl) (by kernel_rfl) (fun _ _ _ h => h) (Or.inl ⟨by rfl, ?_⟩) (by assumption) ?_
  rotate_left
  · (intro w hSw; (try dsimp only at hSw); first | (go_simp; done) | (go_simp; with_reducible rfl))
  try simp [Act.put]
  refine wpAnyH_take (i := 25) (v := ?_) rfl (by kernel_rfl) (by kernel_rfl) (by kernel_rfl) (fun _ _ _ h => h) (Or.inl ⟨by rfl, ?_⟩) (by assumption) ?_
  rotate_left
  · (intro w hSw; (try dsimp only at hSw); first | (go_simp; done) | (go_simp; with_reducible rfl))
  try simp [Act.put]
  refine wpAnyH_take (i := 26) (v := ?_) rfl (by kernel_rfl) (by kernel_rfl) (by kernel_rfl) (fun _ _ _ h => h) (Or.inl ⟨by rfl, ?_⟩) (by assumption) ?_
  rotate_left
  · (intro w hSw; (try dsimp only at hSw); first | (go_simp; done) | (go_simp; with_reducible rfl))
  try simp [Act.put]
  refine wpAnyH_take (i := 28) (v := ?_) rfl (by kernel_rfl) (by kernel_rfl) (by kernel_rfl) (fun _ _ _ h => h) (Or.inl ⟨by rfl, ?_⟩) (by assumption) ?_
  rotate_left
  · (intro w hSw; (try dsimp only at hSw); first | (go_simp; done) | (go_simp; with_reducible rfl))
  try simp [Act.put]
  refine wpAnyH_take (i := 29) (v := ?_) rfl (by kernel_rfl) (by kernel_rfl) (by kernel_rfl) (fun _ _ _ h => h) (Or.inl ⟨by rfl, ?_⟩) (by assumption) ?_
  rotate_left
  · (intro w hSw; (try dsimp only at hSw); first | (go_simp; done) | (go_simp; with_reducible rfl))
  try simp [Act.put]
  refine wpAnyH_take (i := 30) (v := ?_) rfl (by kernel_rfl) (by kernel_rfl) (by kernel_rfl) (fun _ _ _ h => h) (Or.inl ⟨by rfl, ?_⟩) (by assumption) ?_
  rotate_left
  · (intro w hSw; (try dsimp only at hSw); first | (go_simp; done) | (go_simp; with_reducible rfl))
  try simp [Act.put]
  refine wpAnyH_ready (rs := [27]) (by kernel_rfl) (by simp) ?_
  refine AllReadyH.cons rfl (fun K hK => ?_) AllReadyH.nil
  go_simp
  go_at_call 60
  refine (rpb_any (keepS sp_10.out HB2.out).1 (keepS sp_10.out HB2.out).2 HOK.out).mono ?_; rintro en v3 ⟨Ay, ny, cy, rfl, ho, hb⟩
  have HB3 := Lib.hid (stepB HB2.out hb)
  have hsm2 := same_any _ _ _ _ _ _ _ _ _ _ v3 (own_bytes ho) (keepS HSC.out HB3.out).1
  rw [HTK.out, hbe] at hsm2
  have HSM2 := Lib.hid hsm2
  clear hb ho hsm2
  refine hK.out _ _ (HCK.out _ HB3.out) (fun hHeld2 => ?_)
  clear hK K hHeld
  rename _ => hHeld
  try simp [Act.put]
  refine wpAnyH_ready (rs := [31]) (by kernel_rfl) (by simp) ?_
  refine AllReadyH.cons rfl (fun K hK => ?_) AllReadyH.nil
  go_simp
  go_at_call 47
  refine HSM2.out.mono ?_; rintro en v4 ⟨rfl, rfl⟩
  refine hK.out _ _ (HCK.out _ HB3.out) (fun hHeld2 => ?_)
  clear hK K hHeld
  rename _ => hHeld
  try simp [Act.put]
  refine wpAnyH_take (i := 32) (v := ?_) rfl (by kernel_rfl) (by kernel_rfl) (by kernel_rfl) (fun _ _ _ h => h) (Or.inl ⟨by rfl, ?_⟩) (by assumption) ?_
  rotate_left
  · (intro w hSw; (try dsimp only at hSw); first | (go_simp; done) | (go_simp; with_reducible rfl))
  try simp [Act.put]
  refine wpAnyH_take (i := 33) (v := ?_) rfl (by kernel_rfl) (by kernel_rfl) (by kernel_rfl) (fun _ _ _ h => h) (Or.inl ⟨by rfl, ?_⟩) (by assumption) ?_
  rotate_left
  · (intro w hSw; (try dsimp only at hSw); first | (go_simp; done) | (go_simp; with_reducible rfl))
  try simp [Act.put]
  refine wpAnyH_take (i := 34) (v := ?_) rfl (by kernel_rfl) (by kernel_rfl) (by kernel_rfl) (fun _ _ _ h => h) (Or.inl ⟨by rfl, ?_⟩) (by assumption) ?_
  rotate_left
  · (intro w hSw; (try dsimp only at hSw); first | (go_simp; done) | (go_simp; with_reducible rfl))
  try simp [Act.put]
  refine wpAnyH_take (i := 35) (v := ?_) rfl (by kernel_rfl) (by kernel_rfl) (by kernel_rfl) (fun _ _ _ h => h) (Or.inl ⟨by rfl, ?_⟩) (by assumption) ?_
  rotate_left
  · (intro w hSw; (try dsimp only at hSw); first | (go_simp; done) | (go_simp; with_reducible rfl))
  try simp [Act.put]
  refine wpAnyH_take (i := 36) (v := ?_) rfl (by kernel_rfl) (by kernel_rfl) (by kernel_rfl) (fun _ _ _ h => h) (Or.inl ⟨by rfl, ?_⟩) (by assumption) ?_
  rotate_left
  · (intro w hSw; (try dsimp only at hSw); first | (go_simp; done) | (go_simp; with_reducible rfl))
  try simp [Act.put]
  refine wpAnyH_take (i := 37) (v := ?_) rfl (by kernel_rfl) (by kernel_rfl) (by kernel_rfl) (fun _ _ _ h => h) (Or.inl ⟨by rfl, ?_⟩) (by assumption) ?_
  rotate_left
  · (intro w hSw; (try dsimp only at hSw); first | (go_simp; done) | (go_simp; with_reducible rfl))
  try simp [Act.put]
  refine wpAnyH_take (i := 38) (v := ?_) rfl (by kernel_rfl) (by kernel_rfl) (by kernel_rfl) (fun _ _ _ h => h) (Or.inl ⟨by rfl, ?_⟩) (by assumption) ?_
  rotate_left
  · (intro w hSw; (try dsimp only at hSw); first | (go_simp; done) | (go_simp; with_reducible rfl))
  try simp [Act.put]
  refine wpAnyH_take (i := 39) (v := ?_) rfl (by kernel_rfl) (by kernel_rfl) (by kernel_rfl) (fun _ _ _ h => h) (Or.inl ⟨by rfl, ?_⟩) (by assumption) ?_
  rotate_left
  · (intro w hSw; (try dsimp only at hSw); first | (go_simp; done) | (go_simp; with_reducible rfl))
  try simp [Act.put]
  refine wpAnyH_take (i := 40) (v := ?_) rfl (by kernel_rfl) (by kernel_rfl) (by kernel_rfl) (fun _ _ _ h => h) (Or.inl ⟨by rfl, ?_⟩) (by assumption) ?_
  rotate_left
  · (intro w hSw; (try dsimp only at hSw); first | (go_simp; done) | (go_simp; with_reducible rfl))
  try simp [Act.put]
  refine wpAnyH_take (i := 41) (v := ?_) rfl (by kernel_rfl) (by kernel_rfl) (by kernel_rfl) (fun _ _ _ h => h) (Or.inl ⟨by rfl, ?_⟩) (by assumption) ?_
  rotate_left
  · (intro w hSw; (try dsimp only at hSw); first | (go_simp; done) | (go_simp; with_reducible rfl))
  try simp [Act.put]
  refine wpAnyH_take (i := 42) (v := undef) rfl (by kernel_rfl) (by kernel_rfl) (by kernel_rfl) (fun _ _ _ h => h) (Or.inr ⟨by rfl, rfl⟩) (by assumption) ?_
  try simp [Act.put]
  refine wpAnyH_take (i := 43) (v := undef) rfl (by kernel_rfl) (by kernel_rfl) (by kernel_rfl) (fun _ _ _ h => h) (Or.inr ⟨by rfl, rfl⟩) (by assumption) ?_
  try simp [Act.put]
  refine wpAnyH_take (i := 44) (v := ?_) rfl (by kernel_rfl) (by kernel_rfl) (by kernel_rfl) (fun _ _ _ h => h) (Or.inl ⟨by rfl, ?_⟩) (by assumption) ?_
  rotate_left
  · (intro w hSw; (try dsimp only at hSw); first | (go_simp; done) | (go_simp; with_reducible rfl))
  try simp [Act.put]
  refine wpAnyH_take (i := 45) (v := ?_) rfl (by kernel_rfl) (by kernel_rfl) (by kernel_rfl) (fun _ _ _ h => h) (Or.inl ⟨by rfl, ?_⟩) (by assumption) ?_
  rotate_left
  · (intro w hSw; (try dsimp only at hSw); first | (go_simp; done) | (go_simp; with_reducible rfl))
  try simp [Act.put]
  refine wpAnyH_done (by kernel_rfl) ?_ _
  have SL_11 : Hid (Sl rpU8 v3 D A l.length c l) := keepS SL_10.out (HB3.out)
  have sp_11 : Hid (Sl rpStp v3 Dp Ap np cp st) := keepS sp_10.out (HB3.out)
  have pp_11 : Hid (Blk v3 ga 25 (prjV e Ap np cp)) := keepB pp_10.out (HB3.out)
  have fp_11 : Hid (Blk v3 (ga + 1) 40 (fltV ((0 : Int), (0 : Int)))) := keepB fp_10.out (HB3.out)
  have su_11 : Hid (Sl rpStp v3 Du Au nu cu st) := keepS su_10.out (HB3.out)
  have pu_11 : Hid (Blk v3 gb 25 (prjV e Au nu cu)) := keepB pu_10.out (HB3.out)
  have fu_11 : Hid (Blk v3 (gb + 1) 40 (fltV ((0 : Int), (0 : Int)))) := keepB fu_10.out (HB3.out)
  have sr_11 : Hid (Sl rpStp v3 Dr Ar nr cr st) := keepS sr_10.out (HB3.out)
  have cc_11 : Hid (Blk v3 gc 71 (rdV A l.length c q ((0 : Int), (0 : Int)))) := keepB cc_10.out (HB3.out)
  have pw_11 : Hid (Blk v3 (gc + 1) 25 (prjV e Ar nr cr)) := keepB pw_10.out (HB3.out)
  have RD_11 : Hid (Rd v3 D gr l q ((0 : Int), (0 : Int))) := keepR RD_10.out (HB3.out)
  have sx_11 : Hid (Sl rpStp v3 Dx Ax nx cx st) := keepS sx_10.out (HB3.out)
  have px_11 : Hid (Blk v3 gx 25 (prjV e Ax nx cx)) := keepB px_10.out (HB3.out)
  have BB_11 : Hid (Below w.heap.size w v3) := stepB BB_10.out (HB3.out)
  have z_cc0_11 := (show Blk v3 gc 71 (rdV A l.length c q ((0 : Int), (0 : Int))) from cc_11.out).cell 0
  have z_cc1_11 := (show Blk v3 gc 71 (rdV A l.length c q ((0 : Int), (0 : Int))) from cc_11.out).cell 1
  have z_cc2_11 := (show Blk v3 gc 71 (rdV A l.length c q ((0 : Int), (0 : Int))) from cc_11.out).cell 2
  have z_cc3_11 := (show Blk v3 gc 71 (rdV A l.length c q ((0 : Int), (0 : Int))) from cc_11.out).cell 3
  go_wp2_with fail
  refine (HEND.out _).mono ?_; rintro en w12 ⟨rfl, hb⟩
  have SL_12 : Hid (Sl rpU8 w12 D A l.length c l) := keepS SL_11.out hb
  have sp_12 : Hid (Sl rpStp w12 Dp Ap np cp st) := keepS sp_11.out hb
  have pp_12 : Hid (Blk w12 ga 25 (prjV e Ap np cp)) := keepB pp_11.out hb
  have fp_12 : Hid (Blk w12 (ga + 1) 40 (fltV ((0 : Int), (0 : Int)))) := keepB fp_11.out hb
  have su_12 : Hid (Sl rpStp w12 Du Au nu cu st) := keepS su_11.out hb
  have pu_12 : Hid (Blk w12 gb 25 (prjV e Au nu cu)) := keepB pu_11.out hb
  have fu_12 : Hid (Blk w12 (gb + 1) 40 (fltV ((0 : Int), (0 : Int)))) := keepB fu_11.out hb
  have sr_12 : Hid (Sl rpStp w12 Dr Ar nr cr st) := keepS sr_11.out hb
  have cc_12 : Hid (Blk w12 gc 71 (rdV A l.length c q ((0 : Int), (0 : Int)))) := keepB cc_11.out hb
  have pw_12 : Hid (Blk w12 (gc + 1) 25 (prjV e Ar nr cr)) := keepB pw_11.out hb
  have RD_12 : Hid (Rd w12 D gr l q ((0 : Int), (0 : Int))) := keepR RD_11.out hb
  have sx_12 : Hid (Sl rpStp w12 Dx Ax nx cx st) := keepS sx_11.out hb
  have px_12 : Hid (Blk w12 gx 25 (prjV e Ax nx cx)) := keepB px_11.out hb
  have BB_12 : Hid (Below w.heap.size w w12) := stepB BB_11.out hb
  clear z_cc0_11 z_cc1_11 z_cc2_11 z_cc3_11
  clear hb
  go_upto_region 13 with (fail)
  have hb : Below w12.heap.size w12 (w12.alloc (.cells (rdV A l.length c q ((0 : Int), (0 : Int))) 71)) := below1 _ (.cells (rdV A l.length c q ((0 : Int), (0 : Int))) 71)
  have SL_13 : Hid (Sl rpU8 (w12.alloc (.cells (rdV A l.length c q ((0 : Int), (0 : Int))) 71)) D A l.length c l) := keepS SL_12.out hb
  have sp_13 : Hid (Sl rpStp (w12.alloc (.cells (rdV A l.length c q ((0 : Int), (0 : Int))) 71)) Dp Ap np cp st) := keepS sp_12.out hb
  have pp_13 : Hid (Blk (w12.alloc (.cells (rdV A l.length c q ((0 : Int), (0 : Int))) 71)) ga 25 (prjV e Ap np cp)) := keepB pp_12.out hb
  have fp_13 : Hid (Blk (w12.alloc (.cells (rdV A l.length c q ((0 : Int), (0 : Int))) 71)) (ga + 1) 40 (fltV ((0 : Int), (0 : Int)))) := keepB fp_12.out hb
  have su_13 : Hid (Sl rpStp (w12.alloc (.cells (rdV A l.length c q ((0 : Int), (0 : Int))) 71)) Du Au nu cu st) := keepS su_12.out hb
  have pu_13 : Hid (Blk (w12.alloc (.cells (rdV A l.length c q ((0 : Int), (0 : Int))) 71)) gb 25 (prjV e Au nu cu)) := keepB pu_12.out hb
  have fu_13 : Hid (Blk (w12.alloc (.cells (rdV A l.length c q ((0 : Int), (0 : Int))) 71)) (gb + 1) 40 (fltV ((0 : Int), (0 : Int)))) := keepB fu_12.out hb
  have sr_13 : Hid (Sl rpStp (w12.alloc (.cells (rdV A l.length c q ((0 : Int), (0 : Int))) 71)) Dr Ar nr cr st) := keepS sr_12.out hb
  have cc_13 : Hid (Blk (w12.alloc (.cells (rdV A l.length c q ((0 : Int), (0 : Int))) 71)) gc 71 (rdV A l.length c q ((0 : Int), (0 : Int)))) := keepB cc_12.out hb
  have pw_13 : Hid (Blk (w12.alloc (.cells (rdV A l.length c q ((0 : Int), (0 : Int))) 71)) (gc + 1) 25 (prjV e Ar nr cr)) := keepB pw_12.out hb
  have RD_13 : Hid (Rd (w12.alloc (.cells (rdV A l.length c q ((0 : Int), (0 : Int))) 71)) D gr l q ((0 : Int), (0 : Int))) := keepR RD_12.out hb
  have sx_13 : Hid (Sl rpStp (w12.alloc (.cells (rdV A l.length c q ((0 : Int), (0 : Int))) 71)) Dx Ax nx cx st) := keepS sx_12.out hb
  have px_13 : Hid (Blk (w12.alloc (.cells (rdV A l.length c q ((0 : Int), (0 : Int))) 71)) gx 25 (prjV e Ax nx cx)) := keepB px_12.out hb
  have BB_13 : Hid (Below w.heap.size w (w12.alloc (.cells (rdV A l.length c q ((0 : Int), (0 : Int))) 71))) := stepB BB_12.out hb
  have sz_12 := BB_12.out.size
  have dd_13 : Hid (Blk (w12.alloc (.cells (rdV A l.length c q ((0 : Int), (0 : Int))) 71)) w12.heap.size 71 (rdV A l.length c q ((0 : Int), (0 : Int)))) := blk11 _ _ _
  clear hb
  generalize hgd : w12.heap.size = gd at *
  generalize World.alloc w12 _ = w13 at *
  have z_dd2_13 := (show Blk w13 gd 71 (rdV A l.length c q ((0 : Int), (0 : Int))) from dd_13.out).cell 2
  have z_dd3_13 := (show Blk w13 gd 71 (rdV A l.length c q ((0 : Int), (0 : Int))) from dd_13.out).cell 3
  have z_pu0_13 := (show Blk w13 gb 25 (prjV e Au nu cu) from pu_13.out).cell 0
  have z_pu1_13 := (show Blk w13 gb 25 (prjV e Au nu cu) from pu_13.out).cell 1
  have z_fu0_13 := (show Blk w13 (gb + 1) 40 (fltV ((0 : Int), (0 : Int))) from fu_13.out).cell 0
  have z_fu1_13 := (show Blk w13 (gb + 1) 40 (fltV ((0 : Int), (0 : Int))) from fu_13.out).cell 1
  have z_pw0_13 := (show Blk w13 (gc + 1) 25 (prjV e Ar nr cr) from pw_13.out).cell 0
  have z_pw1_13 := (show Blk w13 (gc + 1) 25 (prjV e Ar nr cr) from pw_13.out).cell 1
  go_wp2_with fail
  have hss := rpsame_any (e := e) (e' := e) (su_13.out).1 (sr_13.out).1 (su_13.out).2 (sr_13.out).2
  rw [dec_true rfl] at hss
  have HSU := Lib.hid hss
  clear hss
  refine (HSU.out).mono ?_; rintro en w14 ⟨rfl, hb⟩
  have SL_14 : Hid (Sl rpU8 w14 D A l.length c l) := keepS SL_13.out hb
  have sp_14 : Hid (Sl rpStp w14 Dp Ap np cp st) := keepS sp_13.out hb
  have pp_14 : Hid (Blk w14 ga 25 (prjV e Ap np cp)) := keepB pp_13.out hb
  have fp_14 : Hid (Blk w14 (ga + 1) 40 (fltV ((0 : Int), (0 : Int)))) := keepB fp_13.out hb
  have su_14 : Hid (Sl rpStp w14 Du Au nu cu st) := keepS su_13.out hb
  have pu_14 : Hid (Blk w14 gb 25 (prjV e Au nu cu)) := keepB pu_13.out hb
  have fu_14 : Hid (Blk w14 (gb + 1) 40 (fltV ((0 : Int), (0 : Int)))) := keepB fu_13.out hb
  have sr_14 : Hid (Sl rpStp w14 Dr Ar nr cr st) := keepS sr_13.out hb
  have cc_14 : Hid (Blk w14 gc 71 (rdV A l.length c q ((0 : Int), (0 : Int)))) := keepB cc_13.out hb
  have pw_14 : Hid (Blk w14 (gc + 1) 25 (prjV e Ar nr cr)) := keepB pw_13.out hb
  have RD_14 : Hid (Rd w14 D gr l q ((0 : Int), (0 : Int))) := keepR RD_13.out hb
  have sx_14 : Hid (Sl rpStp w14 Dx Ax nx cx st) := keepS sx_13.out hb
  have px_14 : Hid (Blk w14 gx 25 (prjV e Ax nx cx)) := keepB px_13.out hb
  have dd_14 : Hid (Blk w14 gd 71 (rdV A l.length c q ((0 : Int), (0 : Int)))) := keepB dd_13.out hb
  have BB_14 : Hid (Below w.heap.size w w14) := stepB BB_13.out hb
  clear z_dd2_13 z_dd3_13 z_pu0_13 z_pu1_13 z_fu0_13 z_fu1_13 z_pw0_13 z_pw1_13
  clear hb
  have z_dd2_14 := (show Blk w14 gd 71 (rdV A l.length c q ((0 : Int), (0 : Int))) from dd_14.out).cell 2
  have z_dd3_14 := (show Blk w14 gd 71 (rdV A l.length c q ((0 : Int), (0 : Int))) from dd_14.out).cell 3
  have z_fu0_14 := (show Blk w14 (gb + 1) 40 (fltV ((0 : Int), (0 : Int))) from fu_14.out).cell 0
  have z_fu1_14 := (show Blk w14 (gb + 1) 40 (fltV ((0 : Int), (0 : Int))) from fu_14.out).cell 1
  go_wp2_with fail
  refine (plive_any _).mono ?_; rintro en w15 ⟨rfl, hb⟩
  have SL_15 : Hid (Sl rpU8 w15 D A l.length c l) := keepS SL_14.out hb
  have sp_15 : Hid (Sl rpStp w15 Dp Ap np cp st) := keepS sp_14.out hb
  have pp_15 : Hid (Blk w15 ga 25 (prjV e Ap np cp)) := keepB pp_14.out hb
  have fp_15 : Hid (Blk w15 (ga + 1) 40 (fltV ((0 : Int), (0 : Int)))) := keepB fp_14.out hb
  have su_15 : Hid (Sl rpStp w15 Du Au nu cu st) := keepS su_14.out hb
  have pu_15 : Hid (Blk w15 gb 25 (prjV e Au nu cu)) := keepB pu_14.out hb
  have fu_15 : Hid (Blk w15 (gb + 1) 40 (fltV ((0 : Int), (0 : Int)))) := keepB fu_14.out hb
  have sr_15 : Hid (Sl rpStp w15 Dr Ar nr cr st) := keepS sr_14.out hb
  have cc_15 : Hid (Blk w15 gc 71 (rdV A l.length c q ((0 : Int), (0 : Int)))) := keepB cc_14.out hb
  have pw_15 : Hid (Blk w15 (gc + 1) 25 (prjV e Ar nr cr)) := keepB pw_14.out hb
  have RD_15 : Hid (Rd w15 D gr l q ((0 : Int), (0 : Int))) := keepR RD_14.out hb
  have sx_15 : Hid (Sl rpStp w15 Dx Ax nx cx st) := keepS sx_14.out hb
  have px_15 : Hid (Blk w15 gx 25 (prjV e Ax nx cx)) := keepB px_14.out hb
  have dd_15 : Hid (Blk w15 gd 71 (rdV A l.length c q ((0 : Int), (0 : Int)))) := keepB dd_14.out hb
  have BB_15 : Hid (Below w.heap.size w w15) := stepB BB_14.out hb
  clear z_dd2_14 z_dd3_14 z_fu0_14 z_fu1_14
  clear hb
  go_wp2_with fail
  go_ret
  exact ⟨rfl, BB_15.out⟩
theorem preads_long (h : rpU8.sl w D A n c l) (hn : 500 < n) :
    Calls Try.prog 10 #[.slice A n c] w fun e w' => e = .returned (.bool true) ∧ Below w.heap.size w w' := by
  have hd : decide ((500 : Int) < (n : Int)) = true := by simp; omega
  have HLV := Lib.hid (plive_any w)
  clear h
  go_enter Try.func10, Try.ntmps10
  go_wp2_with fail
  refine HLV.out.mono ?_; rintro en w1 ⟨rfl, hb⟩
  go_wp2_with fail
  go_ret
  exact ⟨rfl, hb⟩
end
theorem projReads_any (A : Option Addr) (n c : Nat) (l : List UInt8) (w : World) (h : rpU8.sl w (lt w.heap.size) A n c l) :
    Calls Try.prog 10 #[.slice A n c] w fun e w' => e = .returned (.bool true) ∧ Below w.heap.size w w' := by
  have hD : ∀ k, lt w.heap.size k → k < w.heap.size := fun k hk => hk
  by_cases hn : 500 < n
  · exact preads_long h hn
  have hok := prjF_ok (l := l) (p := 0) OkF.nil
  have hf0 := @prjF_fail0 l 0 (0, 0)
  have hql := prjF_q (l := l) (p := 0) (f := (0, 0)) (Nat.zero_le _)
  rcases hs : prjF l 0 (0, 0) with ⟨⟨e, st⟩, q, F1, F2⟩
  rw [hs] at hok hf0 hql
  simp only at hok hf0 hql
  by_cases hF : F1 = 0
  · have h00 := hok.eq hF
    injection h00 with e1 e2
    subst e1; subst e2
    by_cases hq : q < l.length
    · exact preads_rest h hD (by omega) hs hq
    · exact preads_whole h hD (by omega) hs (by omega)
  · obtain ⟨rfl, rfl⟩ : e = 0 ∧ st = [] := by
      have := hf0 hF
      injection this with e1 e2
      exact ⟨e1, e2⟩
    exact preads_bad h hD (by omega) hs hF
end Go.Proofs.Ytmdgmnaaopineaa
