/- The walk of SealWrites. -/
import Derived.Test.YtkhomkklamegmaaSealL
namespace Go.Proofs.Ytkhomkklamegmaa
open Go.ChangeShapes Go.WideShapes Go.ChangeAt Go.RowKit
set_option linter.unusedVariables false
set_option maxRecDepth 100000 in
set_option maxHeartbeats 4000000 in
theorem swrites_bad {s : Sea} {D : Dom} {A : Option Addr} {n c : Nat} {l : List UInt8} {w : World} (h : rpU8.sl w D A n c l) (hD : ∀ k, D k → k < w.heap.size) (hn : n ≤ 300) (hs : seaOk s = false) :
    Calls Try.prog 3 #[.agg (sV s), .slice A n c] w fun e w' => e = .returned (.bool true) ∧ Below w.heap.size w w' := by
  obtain ⟨hlen, hnc, hcm⟩ := Rp.sl_len h
  unfold maxLen at hcm
  have HOK := Lib.hid hs
  have HR1 : Hid (∀ w : World, Calls Try.prog 13 #[.agg (sV s)] w fun e w' => e = .returned (.bool false) ∧ Below w.heap.size w w') := fun w => by have := sright_any s w; rwa [hs] at this
  have HR2 : Hid (∀ w : World, Calls Try.prog 14 #[.agg (sV s)] w fun e w' => e = .returned (.bool false) ∧ Below w.heap.size w w') := fun w => by have := rsright_any s w; rwa [hs] at this
  have HLV : Hid (∀ w : World, Calls Try.prog 7 #[] w fun e w' => e = .returned (.bool true) ∧ Below w.heap.size w w') := slive_any
  have hd300 : decide ((300 : Int) < (n : Int)) = false := by simp; omega
  have SL_0 : Hid (Sl rpU8 w D A n c l) := ⟨h, hD⟩
  have BB_0 : Hid (Below w.heap.size w w) := Below.refl _ _
  have HLN := Lib.hid hlen
  clear h hD hs hlen
  go_enter Try.func3, Try.ntmps3
  go_wp2_with fail
  have hb : Below w.heap.size w (w.alloc (.cells (sV s) 24)) := below1 _ (.cells (sV s) 24)
  have SL_1 : Hid (Sl rpU8 (w.alloc (.cells (sV s) 24)) D A n c l) := keepS SL_0.out hb
  have BB_1 : Hid (Below w.heap.size w (w.alloc (.cells (sV s) 24))) := stepB BB_0.out hb
  have sz_0 := BB_0.out.size
  have b0_1 : Hid (Blk (w.alloc (.cells (sV s) 24)) w.heap.size 24 (sV s)) := blk11 _ _ _
  clear hb
  generalize World.alloc w _ = w1 at *
  refine (sbytes_bad s HOK.out _).mono ?_; rintro en w2 ⟨rfl, hb⟩
  have SL_2 : Hid (Sl rpU8 w2 D A n c l) := keepS SL_1.out hb
  have b0_2 : Hid (Blk w2 (w.heap.size) 24 (sV s)) := keepB b0_1.out hb
  have BB_2 : Hid (Below w.heap.size w w2) := stepB BB_1.out hb
  clear hb
  go_wp2_with fail
  refine (new_any 40 _).mono ?_; rintro en w3 ⟨rfl, hp, hb⟩
  have lt0 := (show Blk w2 (w.heap.size) 24 (sV s) from b0_2.out).lt
  obtain ⟨gp, hgp⟩ : ∃ gp, gp = w2.heap.size := ⟨_, rfl⟩
  have szp := BB_2.out.size
  rw [← hgp] at hp szp lt0
  have SL_3 : Hid (Sl rpU8 w3 D A n c l) := keepS SL_2.out hb
  have b0_3 : Hid (Blk w3 (w.heap.size) 24 (sV s)) := keepB b0_2.out hb
  have BB_3 : Hid (Below w.heap.size w w3) := stepB BB_2.out hb
  have PN_3 : Hid (Pen w3 (fun k => k = gp) gp (max 40 0) [] 0) := hp
  clear hb
  have DML := Lib.hid (SL_0.out).2
  clear hp
  rw [← hgp]
  clear hgp
  have z_b00_3 := (show Blk w3 (w.heap.size) 24 (sV s) from b0_3.out).cell 0
  have z_b01_3 := (show Blk w3 (w.heap.size) 24 (sV s) from b0_3.out).cell 1
  have z_b02_3 := (show Blk w3 (w.heap.size) 24 (sV s) from b0_3.out).cell 2
  go_wp2_with fail
  refine (sput_bad s HOK.out (show Pen w3 (fun k => k = gp) gp (max 40 0) [] 0 from PN_3.out)).mono ?_; rintro en w4 ⟨rfl, hp, hc⟩
  have SL_4 : Hid (Sl rpU8 w4 D A n c l) := chS SL_3.out hc (fun k hk e => by have e : k = gp := e; have := DML.out k hk; omega)
  have b0_4 : Hid (Blk w4 (w.heap.size) 24 (sV s)) := chB b0_3.out hc (fun e => by have e : w.heap.size = gp := e; omega)
  have BB_4 : Hid (Below w.heap.size w w4) := chBase BB_3.out hc (fun k hk => by have e : k = gp := hk; omega)
  have PN_4 : Hid (Pen w4 (fun k => k = gp) gp (max 40 0) [] 3) := hp
  clear z_b00_3 z_b01_3 z_b02_3
  clear hp hc
  go_wp2_with fail
  refine (bytes_bad (show Pen w4 (fun k => k = gp) gp (max 40 0) [] 3 from PN_4.out) (by decide)).mono ?_; rintro en wx ⟨rfl, rfl⟩
  go_wp2_with fail
  refine (same_any none none 0 0 0 0 [] [] (fun _ => False) (fun _ => False) _ (Rp.sl_nil _ _ _ _ _ (by decide)) (Rp.sl_nil _ _ _ _ _ (by decide))).mono ?_; rintro en wx ⟨rfl, rfl⟩
  go_wp2_with fail
  have zq_b00_4 : ∀ x : Gr w4.heap.size w4, x.val.cell? ⟨(w.heap.size), 0, none⟩ = _ := fun x => (keepB (show Blk w4 (w.heap.size) 24 (sV s) from b0_4.out) x.is).cell 0
  have zq_b01_4 : ∀ x : Gr w4.heap.size w4, x.val.cell? ⟨(w.heap.size), 1, none⟩ = _ := fun x => (keepB (show Blk w4 (w.heap.size) 24 (sV s) from b0_4.out) x.is).cell 1
  have zq_b02_4 : ∀ x : Gr w4.heap.size w4, x.val.cell? ⟨(w.heap.size), 2, none⟩ = _ := fun x => (keepB (show Blk w4 (w.heap.size) 24 (sV s) from b0_4.out) x.is).cell 2
  refine wp_region_grow (by kernel_rfl) (by kernel_rfl) w4.heap.size ?_
  repeat (first | go_big_quiet_step ((first | (go_at_call 13; exact Gr.call _ (Nat.le_refl _) (HR1.out _)) | (go_at_call 14; exact Gr.call _ (Nat.le_refl _) (HR2.out _)))) | quiet_step ((first | (go_at_call 13; exact Gr.call _ (Nat.le_refl _) (HR1.out _)) | (go_at_call 14; exact Gr.call _ (Nat.le_refl _) (HR2.out _)))))
  refine wpQuiet_nil ?_
  rintro w5 ⟨⟨_, hb⟩, rfl⟩
  clear zq_b00_4 zq_b01_4 zq_b02_4
  have SL_5 : Hid (Sl rpU8 w5 D A n c l) := keepS SL_4.out hb
  have b0_5 : Hid (Blk w5 (w.heap.size) 24 (sV s)) := keepB b0_4.out hb
  have BB_5 : Hid (Below w.heap.size w w5) := stepB BB_4.out hb
  clear hb
  have z_b00_5 := (show Blk w5 (w.heap.size) 24 (sV s) from b0_5.out).cell 0
  have z_b01_5 := (show Blk w5 (w.heap.size) 24 (sV s) from b0_5.out).cell 1
  have z_b02_5 := (show Blk w5 (w.heap.size) 24 (sV s) from b0_5.out).cell 2
  go_wp2_with fail
  refine (HR2.out _).mono ?_; rintro en w6 ⟨rfl, hb⟩
  have SL_6 : Hid (Sl rpU8 w6 D A n c l) := keepS SL_5.out hb
  have b0_6 : Hid (Blk w6 (w.heap.size) 24 (sV s)) := keepB b0_5.out hb
  have BB_6 : Hid (Below w.heap.size w w6) := stepB BB_5.out hb
  clear z_b00_5 z_b01_5 z_b02_5
  clear hb
  go_wp2_with fail
  refine (HLV.out _).mono ?_; rintro en w7 ⟨rfl, hb⟩
  have SL_7 : Hid (Sl rpU8 w7 D A n c l) := keepS SL_6.out hb
  have b0_7 : Hid (Blk w7 (w.heap.size) 24 (sV s)) := keepB b0_6.out hb
  have BB_7 : Hid (Below w.heap.size w w7) := stepB BB_6.out hb
  clear hb
  go_wp2_with fail
  go_ret
  exact ⟨rfl, BB_7.out⟩
set_option maxRecDepth 100000 in
set_option maxHeartbeats 4000000 in
theorem swrites_ok {s : Sea} {D : Dom} {A : Option Addr} {n c : Nat} {l : List UInt8} {w : World} (h : rpU8.sl w D A n c l) (hD : ∀ k, D k → k < w.heap.size) (hn : n ≤ 300) (hs : seaOk s = true) :
    Calls Try.prog 3 #[.agg (sV s), .slice A n c] w fun e w' => e = .returned (.bool true) ∧ Below w.heap.size w w' := by
  obtain ⟨hlen, hnc, hcm⟩ := Rp.sl_len h
  unfold maxLen at hcm
  have HOK := Lib.hid hs
  have HR1 : Hid (∀ w : World, Calls Try.prog 13 #[.agg (sV s)] w fun e w' => e = .returned (.bool true) ∧ Below w.heap.size w w') := fun w => by have := sright_any s w; rwa [hs] at this
  have HR2 : Hid (∀ w : World, Calls Try.prog 14 #[.agg (sV s)] w fun e w' => e = .returned (.bool true) ∧ Below w.heap.size w w') := fun w => by have := rsright_any s w; rwa [hs] at this
  have HLV : Hid (∀ w : World, Calls Try.prog 7 #[] w fun e w' => e = .returned (.bool true) ∧ Below w.heap.size w w') := slive_any
  have hd300 : decide ((300 : Int) < (n : Int)) = false := by simp; omega
  have h30 := sbytes_len hs
  have HFIT : Hid (putsB 40 ([], 0) (spieces s) = (sbytes s, 0)) := by
    have := putsB_fit (most := 40) (b := []) (xs := spieces s) (by rw [spieces_flat]; simp; omega)
    rw [spieces_flat] at this
    exact this
  have hbe : (sbytes s == sbytes s) = true := by simp
  have HBY : Hid (∀ w : World, Calls Try.prog 17 #[.agg (sV s)] w fun e w' => ∃ A n c, e = .returned (.slice A n c) ∧ w'.ownsRow w.heap.size 5 1 (.slice A n c) n ((sbytes s).map bv) ∧ Below w.heap.size w w') := fun w => rsbytes_any s (seaOk_lt hs) w
  have hse1 : sealF (sbytes s ++ l) 0 (0, 0) = (s, (sbytes s).length, (0, 0)) := by have := sealF_stands hs (Stands.front (sbytes s) l); rwa [Nat.zero_add] at this
  have hse2 : sealF (sbytes s) 0 (0, 0) = (s, (sbytes s).length, (0, 0)) := by have := sealF_stands hs (Stands.front (sbytes s) []); rwa [Nat.zero_add, List.append_nil] at this
  have HS1 := Lib.hid hse1
  have HS2 := Lib.hid hse2
  clear hse1 hse2
  have SL_0 : Hid (Sl rpU8 w D A n c l) := ⟨h, hD⟩
  have BB_0 : Hid (Below w.heap.size w w) := Below.refl _ _
  have HLN := Lib.hid hlen
  clear h hD hs hlen
  go_enter Try.func3, Try.ntmps3
  go_wp2_with fail
  have hb : Below w.heap.size w (w.alloc (.cells (sV s) 24)) := below1 _ (.cells (sV s) 24)
  have SL_1 : Hid (Sl rpU8 (w.alloc (.cells (sV s) 24)) D A n c l) := keepS SL_0.out hb
  have BB_1 : Hid (Below w.heap.size w (w.alloc (.cells (sV s) 24))) := stepB BB_0.out hb
  have sz_0 := BB_0.out.size
  have b0_1 : Hid (Blk (w.alloc (.cells (sV s) 24)) w.heap.size 24 (sV s)) := blk11 _ _ _
  clear hb
  generalize World.alloc w _ = w1 at *
  refine (sbytes_ok s HOK.out _).mono ?_; rintro en w2 ⟨Ab, nb, cb, rfl, ho, hb⟩
  have HNB : Hid (nb = (sbytes s).length) := Lib.hid (by have := ho.1; simpa using this.symm)
  have hnb : nb ≤ 30 := by rw [HNB.out]; exact h30
  have SL_2 : Hid (Sl rpU8 w2 D A n c l) := keepS SL_1.out hb
  have b0_2 : Hid (Blk w2 (w.heap.size) 24 (sV s)) := keepB b0_1.out hb
  have BB_2 : Hid (Below w.heap.size w w2) := stepB BB_1.out hb
  have SB_2 : Hid (Sl rpU8 w2 (fun k => some k = (Value.slice Ab nb cb).ownBlock) Ab nb cb (sbytes s)) := ownS ho
  clear hb
  clear ho
  go_wp2_with fail
  refine (new_any 40 _).mono ?_; rintro en w3 ⟨rfl, hp, hb⟩
  have lt0 := (show Blk w2 (w.heap.size) 24 (sV s) from b0_2.out).lt
  obtain ⟨gp, hgp⟩ : ∃ gp, gp = w2.heap.size := ⟨_, rfl⟩
  have szp := BB_2.out.size
  have dmp := (SB_2.out).2
  rw [← hgp] at hp szp lt0 dmp
  have SL_3 : Hid (Sl rpU8 w3 D A n c l) := keepS SL_2.out hb
  have b0_3 : Hid (Blk w3 (w.heap.size) 24 (sV s)) := keepB b0_2.out hb
  have SB_3 : Hid (Sl rpU8 w3 (fun k => some k = (Value.slice Ab nb cb).ownBlock) Ab nb cb (sbytes s)) := keepS SB_2.out hb
  have BB_3 : Hid (Below w.heap.size w w3) := stepB BB_2.out hb
  have PN_3 : Hid (Pen w3 (fun k => k = gp) gp (max 40 0) [] 0) := hp
  clear hb
  have DML := Lib.hid (SL_0.out).2
  have DMB := Lib.hid dmp
  clear dmp
  clear hp
  rw [← hgp]
  clear hgp
  have z_b00_3 := (show Blk w3 (w.heap.size) 24 (sV s) from b0_3.out).cell 0
  have z_b01_3 := (show Blk w3 (w.heap.size) 24 (sV s) from b0_3.out).cell 1
  have z_b02_3 := (show Blk w3 (w.heap.size) 24 (sV s) from b0_3.out).cell 2
  go_wp2_with fail
  refine (sput_ok s HOK.out (show Pen w3 (fun k => k = gp) gp (max 40 0) [] 0 from PN_3.out) (by decide) (by decide) (by simp)).mono ?_; rintro en w4 ⟨rfl, F2, hp, hc, hF2⟩
  rw [show max (40 : Int) 0 = 40 from rfl, HFIT.out] at hp
  have SL_4 : Hid (Sl rpU8 w4 D A n c l) := chS SL_3.out hc (fun k hk e => by have e : k = gp := e; have := DML.out k hk; omega)
  have b0_4 : Hid (Blk w4 (w.heap.size) 24 (sV s)) := chB b0_3.out hc (fun e => by have e : w.heap.size = gp := e; omega)
  have SB_4 : Hid (Sl rpU8 w4 (fun k => some k = (Value.slice Ab nb cb).ownBlock) Ab nb cb (sbytes s)) := chS SB_3.out hc (fun k hk e => by have e : k = gp := e; have := DMB.out k hk; omega)
  have BB_4 : Hid (Below w.heap.size w w4) := chBase BB_3.out hc (fun k hk => by have e : k = gp := hk; omega)
  have PN_4 : Hid (Pen w4 F2 gp 40 (sbytes s) 0) := hp
  clear z_b00_3 z_b01_3 z_b02_3
  clear hp hc hF2
  go_wp2_with fail
  refine (bytes_ok (show Pen w4 F2 gp 40 (sbytes s) 0 from PN_4.out) (by omega)).mono ?_; rintro en w5 ⟨Ap, np, cp, rfl, ho, hb⟩
  have SL_5 : Hid (Sl rpU8 w5 D A n c l) := keepS SL_4.out hb
  have b0_5 : Hid (Blk w5 (w.heap.size) 24 (sV s)) := keepB b0_4.out hb
  have SB_5 : Hid (Sl rpU8 w5 (fun k => some k = (Value.slice Ab nb cb).ownBlock) Ab nb cb (sbytes s)) := keepS SB_4.out hb
  have BB_5 : Hid (Below w.heap.size w w5) := stepB BB_4.out hb
  have SP_5 : Hid (Sl rpU8 w5 (fun k => some k = (Value.slice Ap np cp).ownBlock) Ap np cp (sbytes s)) := ownS ho
  clear hb
  clear ho
  go_wp2_with fail
  refine (same_any _ _ _ _ _ _ _ _ _ _ _ (SP_5.out).1 (SB_5.out).1).mono ?_; rintro en wx ⟨rfl, rfl⟩
  go_wp2_with fail
  have zq_b00_5 : ∀ x : Gr w5.heap.size w5, x.val.cell? ⟨(w.heap.size), 0, none⟩ = _ := fun x => (keepB (show Blk w5 (w.heap.size) 24 (sV s) from b0_5.out) x.is).cell 0
  have zq_b01_5 : ∀ x : Gr w5.heap.size w5, x.val.cell? ⟨(w.heap.size), 1, none⟩ = _ := fun x => (keepB (show Blk w5 (w.heap.size) 24 (sV s) from b0_5.out) x.is).cell 1
  have zq_b02_5 : ∀ x : Gr w5.heap.size w5, x.val.cell? ⟨(w.heap.size), 2, none⟩ = _ := fun x => (keepB (show Blk w5 (w.heap.size) 24 (sV s) from b0_5.out) x.is).cell 2
  refine wp_region_grow (by kernel_rfl) (by kernel_rfl) w5.heap.size ?_
  repeat (first | go_big_quiet_step ((first | (go_at_call 13; exact Gr.call _ (Nat.le_refl _) (HR1.out _)) | (go_at_call 14; exact Gr.call _ (Nat.le_refl _) (HR2.out _)))) | quiet_step ((first | (go_at_call 13; exact Gr.call _ (Nat.le_refl _) (HR1.out _)) | (go_at_call 14; exact Gr.call _ (Nat.le_refl _) (HR2.out _)))))
  refine wpQuiet_nil ?_
  rintro w6 ⟨⟨_, hb⟩, rfl⟩
  clear zq_b00_5 zq_b01_5 zq_b02_5
  have SL_6 : Hid (Sl rpU8 w6 D A n c l) := keepS SL_5.out hb
  have b0_6 : Hid (Blk w6 (w.heap.size) 24 (sV s)) := keepB b0_5.out hb
  have SB_6 : Hid (Sl rpU8 w6 (fun k => some k = (Value.slice Ab nb cb).ownBlock) Ab nb cb (sbytes s)) := keepS SB_5.out hb
  have BB_6 : Hid (Below w.heap.size w w6) := stepB BB_5.out hb
  clear hb
  have z_b00_6 := (show Blk w6 (w.heap.size) 24 (sV s) from b0_6.out).cell 0
  have z_b01_6 := (show Blk w6 (w.heap.size) 24 (sV s) from b0_6.out).cell 1
  have z_b02_6 := (show Blk w6 (w.heap.size) 24 (sV s) from b0_6.out).cell 2
  go_wp2_with fail
  refine (HR2.out _).mono ?_; rintro en w7 ⟨rfl, hb⟩
  have SL_7 : Hid (Sl rpU8 w7 D A n c l) := keepS SL_6.out hb
  have b0_7 : Hid (Blk w7 (w.heap.size) 24 (sV s)) := keepB b0_6.out hb
  have SB_7 : Hid (Sl rpU8 w7 (fun k => some k = (Value.slice Ab nb cb).ownBlock) Ab nb cb (sbytes s)) := keepS SB_6.out hb
  have BB_7 : Hid (Below w.heap.size w w7) := stepB BB_6.out hb
  clear z_b00_6 z_b01_6 z_b02_6
  clear hb
  have HM := Lib.hid (World.ownsRow_made (e := 5) (size := 1) (base := w7.heap.size) w7 #[] 0 (Nat.le_refl _) (by decide) rfl)
  have HSB1 := Lib.hid (keepS (show Sl rpU8 w7 (fun k => some k = (Value.slice Ab nb cb).ownBlock) Ab nb cb (sbytes s) from SB_7.out) (below1 w7 (.cells #[] 5)))
  have mx1 : 0 + nb ≤ maxLen := by unfold maxLen; omega
  have mx2 : nb + n ≤ maxLen := by unfold maxLen; omega
  go_wp2_with (first
    | (at_builtin; refine wpList_app rfl (.tmp 61) (.tmp 62) _ rfl elemB rfl HM.out rfl (Src.bytes HSB1.out.1) mx1 (by omega) (by simp) ?_; intro A1 c1 wa ho1 hg1 hat1; have HBA : Hid (Below w7.heap.size w7 wa) := ((below1 _ _).grown hg1 (by simp) (fun k hk => (HM.out.lt k hk).1)); rw [Nat.zero_add, List.nil_append] at ho1; have HOA := Lib.hid ho1; have HSL1 := Lib.hid (keepS (show Sl rpU8 w7 D A n c l from SL_7.out) HBA.out); clear ho1 hg1 hat1)
    | (at_builtin; refine wpList_app rfl (.tmp 63) (.tmp 64) _ rfl elemB rfl HOA.out rfl (Src.bytes HSL1.out.1) mx2 (by omega) HBA.out.size ?_; intro A2 c2 wb ho2 hg2 hat2; have HBB : Hid (Below w7.heap.size w7 wb) := (HBA.out.grown hg2 HBA.out.size (fun k hk => (HOA.out.lt k hk).1)); have HOB := Lib.hid ho2; clear ho2 hg2 hat2))
  have SL_8 : Hid (Sl rpU8 wb D A n c l) := keepS SL_7.out (HBB.out)
  have b0_8 : Hid (Blk wb (w.heap.size) 24 (sV s)) := keepB b0_7.out (HBB.out)
  have SB_8 : Hid (Sl rpU8 wb (fun k => some k = (Value.slice Ab nb cb).ownBlock) Ab nb cb (sbytes s)) := keepS SB_7.out (HBB.out)
  have BB_8 : Hid (Below w.heap.size w wb) := stepB BB_7.out (HBB.out)
  clear mx1 mx2
  have SA_8 : Hid (Sl rpU8 wb (fun k => some k = (Value.slice A2 (nb + n) c2).ownBlock) A2 (nb + n) c2 (sbytes s ++ l)) := ownS (by have := HOB.out; rw [← List.map_append] at this; exact this)
  have HGET : Hid (Calls Try.prog 15 #[.slice A2 (nb + n) c2] wb fun e w'' => e = .returned (.tuple #[.agg (sV s), .int .i64 (nb : Int), .agg (fV (0, 0))]) ∧ Below wb.heap.size wb w'') := by
    have := sget_any (SA_8.out).1 (SA_8.out).2 (by omega)
    rw [HS1.out, ← HNB.out] at this
    exact this
  refine (HGET.out).mono ?_; rintro en w9 ⟨rfl, hb⟩
  have SL_9 : Hid (Sl rpU8 w9 D A n c l) := keepS SL_8.out hb
  have b0_9 : Hid (Blk w9 (w.heap.size) 24 (sV s)) := keepB b0_8.out hb
  have SB_9 : Hid (Sl rpU8 w9 (fun k => some k = (Value.slice Ab nb cb).ownBlock) Ab nb cb (sbytes s)) := keepS SB_8.out hb
  have BB_9 : Hid (Below w.heap.size w w9) := stepB BB_8.out hb
  clear hb
  go_wp2_with fail
  have lt_b0_9 := (show Blk w9 (w.heap.size) 24 (sV s) from b0_9.out).lt
  have hb : Below w9.heap.size w9 ((w9.alloc (.cells (sV s) 24)).alloc (.cells (fV (0, 0)) 37)) := below2 _ (.cells (sV s) 24) (.cells (fV (0, 0)) 37)
  have SL_10 : Hid (Sl rpU8 ((w9.alloc (.cells (sV s) 24)).alloc (.cells (fV (0, 0)) 37)) D A n c l) := keepS SL_9.out hb
  have b0_10 : Hid (Blk ((w9.alloc (.cells (sV s) 24)).alloc (.cells (fV (0, 0)) 37)) (w.heap.size) 24 (sV s)) := keepB b0_9.out hb
  have SB_10 : Hid (Sl rpU8 ((w9.alloc (.cells (sV s) 24)).alloc (.cells (fV (0, 0)) 37)) (fun k => some k = (Value.slice Ab nb cb).ownBlock) Ab nb cb (sbytes s)) := keepS SB_9.out hb
  have BB_10 : Hid (Below w.heap.size w ((w9.alloc (.cells (sV s) 24)).alloc (.cells (fV (0, 0)) 37))) := stepB BB_9.out hb
  have sz_9 := BB_9.out.size
  have b10_10 : Hid (Blk ((w9.alloc (.cells (sV s) 24)).alloc (.cells (fV (0, 0)) 37)) w9.heap.size 24 (sV s)) := blk21 _ _ _ _ _
  have b12_10 : Hid (Blk ((w9.alloc (.cells (sV s) 24)).alloc (.cells (fV (0, 0)) 37)) (w9.heap.size + 1) 37 (fV (0, 0))) := blk22 _ _ _ _ _
  clear hb
  generalize hga : w9.heap.size = ga at *
  generalize World.alloc (World.alloc w9 _) _ = w10 at *
  have HDEC : Hid (Calls Try.prog 16 #[.slice Ab nb cb] w10 fun e w'' => e = .returned (.tuple #[.agg (sV s), .agg (fV (0, 0))]) ∧ Below w10.heap.size w10 w'') := by
    have := sdecode_any (SB_10.out).1 (SB_10.out).2 (by omega)
    rw [HS2.out, show endF (sbytes s).length (sbytes s).length (0, 0) = (0, 0) from if_neg (Nat.lt_irrefl _)] at this
    exact this
  refine (HDEC.out).mono ?_; rintro en w11 ⟨rfl, hb⟩
  have SL_11 : Hid (Sl rpU8 w11 D A n c l) := keepS SL_10.out hb
  have b0_11 : Hid (Blk w11 (w.heap.size) 24 (sV s)) := keepB b0_10.out hb
  have SB_11 : Hid (Sl rpU8 w11 (fun k => some k = (Value.slice Ab nb cb).ownBlock) Ab nb cb (sbytes s)) := keepS SB_10.out hb
  have b10_11 : Hid (Blk w11 ga 24 (sV s)) := keepB b10_10.out hb
  have b12_11 : Hid (Blk w11 (ga + 1) 37 (fV (0, 0))) := keepB b12_10.out hb
  have BB_11 : Hid (Below w.heap.size w w11) := stepB BB_10.out hb
  clear hb
  have z_b00_11 := (show Blk w11 (w.heap.size) 24 (sV s) from b0_11.out).cell 0
  have z_b01_11 := (show Blk w11 (w.heap.size) 24 (sV s) from b0_11.out).cell 1
  have z_b02_11 := (show Blk w11 (w.heap.size) 24 (sV s) from b0_11.out).cell 2
  have lu_b0_11 := (show Blk w11 (w.heap.size) 24 (sV s) from b0_11.out).lt
  go_wp2_with fail
  have lt_b12_11 := (show Blk w11 (ga + 1) 37 (fV (0, 0)) from b12_11.out).lt
  have hb : Below w11.heap.size w11 ((w11.alloc (.cells (sV s) 24)).alloc (.cells (fV (0, 0)) 37)) := below2 _ (.cells (sV s) 24) (.cells (fV (0, 0)) 37)
  have SL_12 : Hid (Sl rpU8 ((w11.alloc (.cells (sV s) 24)).alloc (.cells (fV (0, 0)) 37)) D A n c l) := keepS SL_11.out hb
  have b0_12 : Hid (Blk ((w11.alloc (.cells (sV s) 24)).alloc (.cells (fV (0, 0)) 37)) (w.heap.size) 24 (sV s)) := keepB b0_11.out hb
  have SB_12 : Hid (Sl rpU8 ((w11.alloc (.cells (sV s) 24)).alloc (.cells (fV (0, 0)) 37)) (fun k => some k = (Value.slice Ab nb cb).ownBlock) Ab nb cb (sbytes s)) := keepS SB_11.out hb
  have b10_12 : Hid (Blk ((w11.alloc (.cells (sV s) 24)).alloc (.cells (fV (0, 0)) 37)) ga 24 (sV s)) := keepB b10_11.out hb
  have b12_12 : Hid (Blk ((w11.alloc (.cells (sV s) 24)).alloc (.cells (fV (0, 0)) 37)) (ga + 1) 37 (fV (0, 0))) := keepB b12_11.out hb
  have BB_12 : Hid (Below w.heap.size w ((w11.alloc (.cells (sV s) 24)).alloc (.cells (fV (0, 0)) 37))) := stepB BB_11.out hb
  have sz_11 := BB_11.out.size
  have b13_12 : Hid (Blk ((w11.alloc (.cells (sV s) 24)).alloc (.cells (fV (0, 0)) 37)) w11.heap.size 24 (sV s)) := blk21 _ _ _ _ _
  have b14_12 : Hid (Blk ((w11.alloc (.cells (sV s) 24)).alloc (.cells (fV (0, 0)) 37)) (w11.heap.size + 1) 37 (fV (0, 0))) := blk22 _ _ _ _ _
  clear hb
  generalize hgb : w11.heap.size = gb at *
  generalize World.alloc (World.alloc w11 _) _ = w12 at *
  clear z_b00_11 z_b01_11 z_b02_11 lu_b0_11
  refine (HBY.out _).mono ?_; rintro en w13 ⟨Ay, ny, cy, rfl, ho, hb⟩
  have SL_13 : Hid (Sl rpU8 w13 D A n c l) := keepS SL_12.out hb
  have b0_13 : Hid (Blk w13 (w.heap.size) 24 (sV s)) := keepB b0_12.out hb
  have SB_13 : Hid (Sl rpU8 w13 (fun k => some k = (Value.slice Ab nb cb).ownBlock) Ab nb cb (sbytes s)) := keepS SB_12.out hb
  have b10_13 : Hid (Blk w13 ga 24 (sV s)) := keepB b10_12.out hb
  have b12_13 : Hid (Blk w13 (ga + 1) 37 (fV (0, 0))) := keepB b12_12.out hb
  have b13_13 : Hid (Blk w13 gb 24 (sV s)) := keepB b13_12.out hb
  have b14_13 : Hid (Blk w13 (gb + 1) 37 (fV (0, 0))) := keepB b14_12.out hb
  have BB_13 : Hid (Below w.heap.size w w13) := stepB BB_12.out hb
  have SY_13 : Hid (Sl rpU8 w13 (fun k => some k = (Value.slice Ay ny cy).ownBlock) Ay ny cy (sbytes s)) := ownS ho
  clear hb
  clear ho
  have z_b00_13 := (show Blk w13 (w.heap.size) 24 (sV s) from b0_13.out).cell 0
  have z_b01_13 := (show Blk w13 (w.heap.size) 24 (sV s) from b0_13.out).cell 1
  have z_b02_13 := (show Blk w13 (w.heap.size) 24 (sV s) from b0_13.out).cell 2
  have z_b100_13 := (show Blk w13 ga 24 (sV s) from b10_13.out).cell 0
  have z_b101_13 := (show Blk w13 ga 24 (sV s) from b10_13.out).cell 1
  have z_b102_13 := (show Blk w13 ga 24 (sV s) from b10_13.out).cell 2
  have z_b120_13 := (show Blk w13 (ga + 1) 37 (fV (0, 0)) from b12_13.out).cell 0
  have z_b130_13 := (show Blk w13 gb 24 (sV s) from b13_13.out).cell 0
  have z_b131_13 := (show Blk w13 gb 24 (sV s) from b13_13.out).cell 1
  have z_b132_13 := (show Blk w13 gb 24 (sV s) from b13_13.out).cell 2
  have z_b140_13 := (show Blk w13 (gb + 1) 37 (fV (0, 0)) from b14_13.out).cell 0
  go_wp2_with fail
  refine (same_any _ _ _ _ _ _ _ _ _ _ _ (SB_13.out).1 (SY_13.out).1).mono ?_; rintro en wx ⟨rfl, rfl⟩
  go_wp2_with fail
  refine (HLV.out _).mono ?_; rintro en w14 ⟨rfl, hb⟩
  have SL_14 : Hid (Sl rpU8 w14 D A n c l) := keepS SL_13.out hb
  have b0_14 : Hid (Blk w14 (w.heap.size) 24 (sV s)) := keepB b0_13.out hb
  have SB_14 : Hid (Sl rpU8 w14 (fun k => some k = (Value.slice Ab nb cb).ownBlock) Ab nb cb (sbytes s)) := keepS SB_13.out hb
  have b10_14 : Hid (Blk w14 ga 24 (sV s)) := keepB b10_13.out hb
  have b12_14 : Hid (Blk w14 (ga + 1) 37 (fV (0, 0))) := keepB b12_13.out hb
  have b13_14 : Hid (Blk w14 gb 24 (sV s)) := keepB b13_13.out hb
  have b14_14 : Hid (Blk w14 (gb + 1) 37 (fV (0, 0))) := keepB b14_13.out hb
  have SY_14 : Hid (Sl rpU8 w14 (fun k => some k = (Value.slice Ay ny cy).ownBlock) Ay ny cy (sbytes s)) := keepS SY_13.out hb
  have BB_14 : Hid (Below w.heap.size w w14) := stepB BB_13.out hb
  clear z_b00_13 z_b01_13 z_b02_13 z_b100_13 z_b101_13 z_b102_13 z_b120_13 z_b130_13 z_b131_13 z_b132_13 z_b140_13
  clear hb
  go_wp2_with fail
  go_ret
  exact ⟨rfl, BB_14.out⟩
theorem swrites_long {s : Sea} {A : Option Addr} {n c : Nat} {w : World} (hn : 300 < n) :
    Calls Try.prog 3 #[.agg (sV s), .slice A n c] w fun e w' => e = .returned (.bool true) ∧ Below w.heap.size w w' := by
  have hd : decide ((300 : Int) < (n : Int)) = true := by simp; omega
  have HLV : Hid (∀ w : World, Calls Try.prog 7 #[] w fun e w' => e = .returned (.bool true) ∧ Below w.heap.size w w') := slive_any
  go_enter Try.func3, Try.ntmps3
  go_wp2_with fail
  refine (HLV.out _).mono ?_; rintro en w1 ⟨rfl, hb⟩
  go_wp2_with fail
  go_ret
  exact ⟨rfl, stepB (below1 _ _) hb⟩
abbrev rpSea : Rp Sea := rpPair rpU64 (rpPair rpU64 rpU64)
theorem sea_cells {w : World} {D : Dom} {x : Sea} {cs : Array Value} (h : rpSea.ok w D x cs.toList) : cs = sV x ∧ ∀ y ∈ [x.1, x.2.1, x.2.2], y < 18446744073709551616 := by
  obtain ⟨x1, x2, x3⟩ := x
  obtain ⟨cs1, cs2, e, ⟨rfl, q1⟩, cs3, cs4, rfl, ⟨rfl, q2⟩, ⟨rfl, q3⟩⟩ := h
  refine ⟨?_, ?_⟩
  · have : cs.toList.toArray = cs := by simp
    rw [← this, e]; rfl
  · intro y hy
    simp only [List.mem_cons, List.mem_nil_iff, or_false] at hy
    dsimp only at q1 q2 q3
    rcases hy with rfl | rfl | rfl <;> assumption
theorem sealWrites_any (cs : Array Value) (x : Sea) (A : Option Addr) (n c : Nat) (l : List UInt8) (w : World) (hx : rpSea.ok w (lt w.heap.size) x cs.toList) (h : rpU8.sl w (lt w.heap.size) A n c l) :
    Calls Try.prog 3 #[.agg cs, .slice A n c] w fun e w' => e = .returned (.bool true) ∧ Below w.heap.size w w' := by
  obtain ⟨rfl, _⟩ := sea_cells hx
  have hD : ∀ k, lt w.heap.size k → k < w.heap.size := fun k hk => hk
  by_cases hn : 300 < n
  · exact swrites_long hn
  cases hs : seaOk x
  · exact swrites_bad h hD (by omega) hs
  · exact swrites_ok h hD (by omega) hs
end Go.Proofs.Ytkhomkklamegmaa
