/- The walk of StripeReads. -/
import Derived.Test.YtmdgmnaaopineaaStrW
import Derived.Test.YtmdgmnaaopineaaStrY
import Derived.Test.YtmdgmnaaopineaaStrZ
import Derived.Test.YtmdgmnaaopineaaStpL
import Derived.Test.YtmdgmnaaopineaaLive
namespace Go.Proofs.Ytmdgmnaaopineaa
open Go.ChangeShapes Go.WideShapes Go.ChangeAt Go.RowKit
set_option linter.unusedVariables false
section
variable {D : Dom} {A : Option Addr} {n c fr q f1 t1 : Nat} {F1 F2 : Int} {sets : List (List Nat)} {l : List UInt8} {w : World}
set_option maxRecDepth 100000 in
set_option maxHeartbeats 4000000 in
theorem streads_bad (h : rpU8.sl w D A n c l) (hD : ∀ k, D k → k < w.heap.size) (hn : n ≤ 300) (hfr : fr ≤ 18446744073709551615) (hs : strF l 0 (0, 0) fr = ((0, 0, ([] : List (List Nat))), q, (F1, F2))) (hF : F1 ≠ 0) :
    Calls Try.prog 8 #[.slice A n c, .int .u64 (fr : Int)] w fun e w' => e = .returned (.bool true) ∧ Below w.heap.size w w' := by
  obtain ⟨hlen, hnc, hcm⟩ := Rp.sl_len h
  unfold maxLen at hcm
  subst hlen
  have hl : l.length ≤ 1000000000 := by omega
  have hqle : q ≤ l.length := by have := strF_q (l := l) (p := 0) (fr := fr) (f := (0, 0)) (Nat.zero_le _); rw [hs] at this; exact this
  have HNEW : Hid (∀ w', Sl rpU8 w' D A l.length c l → Calls Try.prog 40 #[.slice A l.length c] w' fun e w'' => e = .returned (.pointer (some ⟨w'.heap.size, 0, none⟩)) ∧ Rd w'' D w'.heap.size l 0 (0, 0) ∧ Below w'.heap.size w' w'') := fun w' h => cnew_any h.1 h.2
  have HRD : Hid (∀ (w : World) (g : Nat), Rd w D g l 0 (0, 0) → Calls Try.prog 41 #[.pointer (some ⟨g, 0, none⟩), .int .u64 (fr : Int)] w (StrIs w D g l ((0, 0, ([] : List (List Nat))), q, (F1, F2)))) := fun w g h => by
    have := strRead_any h OkF.nil hl fr hfr
    rw [hs] at this
    exact this
  have HREF : Hid (∀ w', Sl rpU8 w' D A l.length c l → Calls Try.prog 42 #[.agg (rdV A l.length c ((0 : Nat) : Int) (0, 0)), .int .u64 (fr : Int)] w' (RstIs w' A l.length c ((0, 0, ([] : List (List Nat))), q, (F1, F2)))) := fun w' h => by
    have := rstr_any h.1 h.2 OkF.nil (Nat.zero_le _) hl fr hfr
    rw [hs] at this
    exact this
  have hg1 : (F1 == 0) = false := by simpa using hF
  have hg2 : (F1 != 0) = true := by simpa using hF
  have hd300 : decide ((300 : Int) < (l.length : Int)) = false := by simp; omega
  have SL_0 : Hid (Sl rpU8 w D A l.length c l) := ⟨h, hD⟩
  have BB_0 : Hid (Below w.heap.size w w) := Below.refl _ _
  have HQ := Lib.hid hqle
  clear h hD hs hF
  go_enter Try.func8, Try.ntmps8
  go_wp2_with fail
  refine (HNEW.out _ SL_0.out).mono ?_; rintro en w1 ⟨rfl, hr, hb⟩
  obtain ⟨gr, hgr⟩ : ∃ gr, gr = w.heap.size := ⟨_, rfl⟩
  rw [← hgr] at hr
  have SL_1 : Hid (Sl rpU8 w1 D A l.length c l) := keepS SL_0.out hb
  have BB_1 : Hid (Below w.heap.size w w1) := stepB BB_0.out hb
  have RD_1 : Hid (Rd w1 D gr l 0 (0, 0)) := hr
  clear hb
  clear hr
  rw [← hgr]
  have szw : gr ≤ w.heap.size := Nat.le_of_eq hgr
  have HGR := Lib.hid hgr
  clear hgr szw
  go_wp2_with fail
  refine (HRD.out _ _ RD_1.out).mono ?_; rintro en w2 ⟨As, ns, cs, rfl, hll, hr, hc⟩
  have hln := hll.len
  obtain ⟨Ds, hsl⟩ : ∃ Ds, Sl (rpSlice rpU64) w2 Ds As ns cs ([] : List (List Nat)) := ⟨_, hll.sl⟩
  clear hll
  have SL_2 : Hid (Sl rpU8 w2 D A l.length c l) := chS SL_1.out hc (fun k hk e => by have e : k = gr := e; have h1 := SL_0.out.2 k hk; have := HGR.out; omega)
  have BB_2 : Hid (Below w.heap.size w w2) := chBase BB_1.out hc (fun k hk => by have e : k = gr := hk; have := HGR.out; omega)
  have RD_2 : Hid (Rd w2 D gr l q (F1, F2)) := hr
  have s1_2 : Hid (Sl (rpSlice rpU64) w2 Ds As ns cs ([] : List (List Nat))) := hsl
  clear hr hc hsl
  go_wp2_with fail
  have hb : Below w2.heap.size w2 (w2.alloc (.cells (stpV 0 0 As ns cs) 31)) := below1 _ (.cells (stpV 0 0 As ns cs) 31)
  have SL_3 : Hid (Sl rpU8 (w2.alloc (.cells (stpV 0 0 As ns cs) 31)) D A l.length c l) := keepS SL_2.out hb
  have RD_3 : Hid (Rd (w2.alloc (.cells (stpV 0 0 As ns cs) 31)) D gr l q (F1, F2)) := keepR RD_2.out hb
  have s1_3 : Hid (Sl (rpSlice rpU64) (w2.alloc (.cells (stpV 0 0 As ns cs) 31)) Ds As ns cs ([] : List (List Nat))) := keepS s1_2.out hb
  have BB_3 : Hid (Below w.heap.size w (w2.alloc (.cells (stpV 0 0 As ns cs) 31))) := stepB BB_2.out hb
  have sz_2 := BB_2.out.size
  have b6_3 : Hid (Blk (w2.alloc (.cells (stpV 0 0 As ns cs) 31)) w2.heap.size 31 (stpV 0 0 As ns cs)) := blk11 _ _ _
  clear hb
  generalize hga : w2.heap.size = ga at *
  generalize World.alloc w2 _ = w3 at *
  refine (HREF.out _ SL_3.out).mono ?_; rintro en w4 ⟨Ar, nr, cr, rfl, hll, hb⟩
  have hln2 := hll.len
  obtain ⟨Dr, hsl⟩ : ∃ Dr, Sl (rpSlice rpU64) w4 Dr Ar nr cr ([] : List (List Nat)) := ⟨_, hll.sl⟩
  clear hll
  have SL_4 : Hid (Sl rpU8 w4 D A l.length c l) := keepS SL_3.out hb
  have RD_4 : Hid (Rd w4 D gr l q (F1, F2)) := keepR RD_3.out hb
  have s1_4 : Hid (Sl (rpSlice rpU64) w4 Ds As ns cs ([] : List (List Nat))) := keepS s1_3.out hb
  have b6_4 : Hid (Blk w4 ga 31 (stpV 0 0 As ns cs)) := keepB b6_3.out hb
  have BB_4 : Hid (Below w.heap.size w w4) := stepB BB_3.out hb
  have s2_4 : Hid (Sl (rpSlice rpU64) w4 Dr Ar nr cr ([] : List (List Nat))) := hsl
  clear hb
  clear hsl
  go_wp2_with fail
  have lt_b6_4 := (show Blk w4 ga 31 (stpV 0 0 As ns cs) from b6_4.out).lt
  have hb : Below w4.heap.size w4 ((w4.alloc (.cells (rdV A l.length c q (F1, F2)) 71)).alloc (.cells (stpV 0 0 Ar nr cr) 31)) := below2 _ (.cells (rdV A l.length c q (F1, F2)) 71) (.cells (stpV 0 0 Ar nr cr) 31)
  have SL_5 : Hid (Sl rpU8 ((w4.alloc (.cells (rdV A l.length c q (F1, F2)) 71)).alloc (.cells (stpV 0 0 Ar nr cr) 31)) D A l.length c l) := keepS SL_4.out hb
  have RD_5 : Hid (Rd ((w4.alloc (.cells (rdV A l.length c q (F1, F2)) 71)).alloc (.cells (stpV 0 0 Ar nr cr) 31)) D gr l q (F1, F2)) := keepR RD_4.out hb
  have s1_5 : Hid (Sl (rpSlice rpU64) ((w4.alloc (.cells (rdV A l.length c q (F1, F2)) 71)).alloc (.cells (stpV 0 0 Ar nr cr) 31)) Ds As ns cs ([] : List (List Nat))) := keepS s1_4.out hb
  have b6_5 : Hid (Blk ((w4.alloc (.cells (rdV A l.length c q (F1, F2)) 71)).alloc (.cells (stpV 0 0 Ar nr cr) 31)) ga 31 (stpV 0 0 As ns cs)) := keepB b6_4.out hb
  have s2_5 : Hid (Sl (rpSlice rpU64) ((w4.alloc (.cells (rdV A l.length c q (F1, F2)) 71)).alloc (.cells (stpV 0 0 Ar nr cr) 31)) Dr Ar nr cr ([] : List (List Nat))) := keepS s2_4.out hb
  have BB_5 : Hid (Below w.heap.size w ((w4.alloc (.cells (rdV A l.length c q (F1, F2)) 71)).alloc (.cells (stpV 0 0 Ar nr cr) 31))) := stepB BB_4.out hb
  have sz_4 := BB_4.out.size
  have b7_5 : Hid (Blk ((w4.alloc (.cells (rdV A l.length c q (F1, F2)) 71)).alloc (.cells (stpV 0 0 Ar nr cr) 31)) w4.heap.size 71 (rdV A l.length c q (F1, F2))) := blk21 _ _ _ _ _
  have b8_5 : Hid (Blk ((w4.alloc (.cells (rdV A l.length c q (F1, F2)) 71)).alloc (.cells (stpV 0 0 Ar nr cr) 31)) (w4.heap.size + 1) 31 (stpV 0 0 Ar nr cr)) := blk22 _ _ _ _ _
  clear hb
  generalize hgb : w4.heap.size = gb at *
  generalize World.alloc (World.alloc w4 _) _ = w5 at *
  have zq_b60_5 : ∀ x : Gr w5.heap.size w5, x.val.cell? ⟨ga, 0, none⟩ = _ := fun x => (keepB (show Blk w5 ga 31 (stpV 0 0 As ns cs) from b6_5.out) x.is).cell 0
  have zq_b61_5 : ∀ x : Gr w5.heap.size w5, x.val.cell? ⟨ga, 1, none⟩ = _ := fun x => (keepB (show Blk w5 ga 31 (stpV 0 0 As ns cs) from b6_5.out) x.is).cell 1
  have zq_b62_5 : ∀ x : Gr w5.heap.size w5, x.val.cell? ⟨ga, 2, none⟩ = _ := fun x => (keepB (show Blk w5 ga 31 (stpV 0 0 As ns cs) from b6_5.out) x.is).cell 2
  have zq_b80_5 : ∀ x : Gr w5.heap.size w5, x.val.cell? ⟨(gb + 1), 0, none⟩ = _ := fun x => (keepB (show Blk w5 (gb + 1) 31 (stpV 0 0 Ar nr cr) from b8_5.out) x.is).cell 0
  have zq_b81_5 : ∀ x : Gr w5.heap.size w5, x.val.cell? ⟨(gb + 1), 1, none⟩ = _ := fun x => (keepB (show Blk w5 (gb + 1) 31 (stpV 0 0 Ar nr cr) from b8_5.out) x.is).cell 1
  have zq_b82_5 : ∀ x : Gr w5.heap.size w5, x.val.cell? ⟨(gb + 1), 2, none⟩ = _ := fun x => (keepB (show Blk w5 (gb + 1) 31 (stpV 0 0 Ar nr cr) from b8_5.out) x.is).cell 2
  have zq_b72_5 : ∀ x : Gr w5.heap.size w5, x.val.cell? ⟨gb, 2, none⟩ = _ := fun x => (keepB (show Blk w5 gb 71 (rdV A l.length c q (F1, F2)) from b7_5.out) x.is).cell 2
  have zq_b73_5 : ∀ x : Gr w5.heap.size w5, x.val.cell? ⟨gb, 3, none⟩ = _ := fun x => (keepB (show Blk w5 gb 71 (rdV A l.length c q (F1, F2)) from b7_5.out) x.is).cell 3
  have RQ : Hid (∀ x : Gr w5.heap.size w5, Rd x.val D gr l q (F1, F2)) := fun x => keepR (show Rd w5 D gr l q (F1, F2) from RD_5.out) x.is
  have hsm := fun qq : Gr w5.heap.size w5 => rsame_any (f := 0) (t := 0) (f' := 0) (t' := 0) (keepS s1_5.out qq.is).1 (keepS s2_5.out qq.is).1 (keepS s1_5.out qq.is).2 (keepS s2_5.out qq.is).2
  rw [dec_true rfl] at hsm
  have HSM := Lib.hid hsm
  clear hsm
  refine wp_region_grow (by kernel_rfl) (by kernel_rfl) w5.heap.size ?_
  repeat (first | go_big_quiet_step ((first | (go_at_call 43; exact Gr.call _ (Nat.le_refl _) (HSM.out _)) | (go_at_call 44; exact Gr.call _ (Nat.le_refl _) (cfault_at (RQ.out _))))) | quiet_step ((first | (go_at_call 43; exact Gr.call _ (Nat.le_refl _) (HSM.out _)) | (go_at_call 44; exact Gr.call _ (Nat.le_refl _) (cfault_at (RQ.out _))))))
  refine wpQuiet_nil ?_
  rintro w6 ⟨⟨_, hb⟩, rfl⟩
  clear zq_b60_5 zq_b61_5 zq_b62_5 zq_b80_5 zq_b81_5 zq_b82_5 zq_b72_5 zq_b73_5 RQ
  have SL_6 : Hid (Sl rpU8 w6 D A l.length c l) := keepS SL_5.out hb
  have RD_6 : Hid (Rd w6 D gr l q (F1, F2)) := keepR RD_5.out hb
  have s1_6 : Hid (Sl (rpSlice rpU64) w6 Ds As ns cs ([] : List (List Nat))) := keepS s1_5.out hb
  have b6_6 : Hid (Blk w6 ga 31 (stpV 0 0 As ns cs)) := keepB b6_5.out hb
  have s2_6 : Hid (Sl (rpSlice rpU64) w6 Dr Ar nr cr ([] : List (List Nat))) := keepS s2_5.out hb
  have b7_6 : Hid (Blk w6 gb 71 (rdV A l.length c q (F1, F2))) := keepB b7_5.out hb
  have b8_6 : Hid (Blk w6 (gb + 1) 31 (stpV 0 0 Ar nr cr)) := keepB b8_5.out hb
  have BB_6 : Hid (Below w.heap.size w w6) := stepB BB_5.out hb
  clear hb
  have z_b71_6 := (show Blk w6 gb 71 (rdV A l.length c q (F1, F2)) from b7_6.out).cell 1
  have z_b72_6 := (show Blk w6 gb 71 (rdV A l.length c q (F1, F2)) from b7_6.out).cell 2
  have z_b73_6 := (show Blk w6 gb 71 (rdV A l.length c q (F1, F2)) from b7_6.out).cell 3
  have z_b60_6 := (show Blk w6 ga 31 (stpV 0 0 As ns cs) from b6_6.out).cell 0
  have z_b61_6 := (show Blk w6 ga 31 (stpV 0 0 As ns cs) from b6_6.out).cell 1
  have z_b62_6 := (show Blk w6 ga 31 (stpV 0 0 As ns cs) from b6_6.out).cell 2
  go_wp2_with fail
  refine (slive_any _).mono ?_; rintro en w7 ⟨rfl, hb⟩
  have SL_7 : Hid (Sl rpU8 w7 D A l.length c l) := keepS SL_6.out hb
  have RD_7 : Hid (Rd w7 D gr l q (F1, F2)) := keepR RD_6.out hb
  have s1_7 : Hid (Sl (rpSlice rpU64) w7 Ds As ns cs ([] : List (List Nat))) := keepS s1_6.out hb
  have b6_7 : Hid (Blk w7 ga 31 (stpV 0 0 As ns cs)) := keepB b6_6.out hb
  have s2_7 : Hid (Sl (rpSlice rpU64) w7 Dr Ar nr cr ([] : List (List Nat))) := keepS s2_6.out hb
  have b7_7 : Hid (Blk w7 gb 71 (rdV A l.length c q (F1, F2))) := keepB b7_6.out hb
  have b8_7 : Hid (Blk w7 (gb + 1) 31 (stpV 0 0 Ar nr cr)) := keepB b8_6.out hb
  have BB_7 : Hid (Below w.heap.size w w7) := stepB BB_6.out hb
  clear z_b71_6 z_b72_6 z_b73_6 z_b60_6 z_b61_6 z_b62_6
  clear hb
  go_wp2_with fail
  go_ret
  exact ⟨rfl, BB_7.out⟩
set_option maxRecDepth 100000 in
set_option maxHeartbeats 4000000 in
theorem streads_good (h : rpU8.sl w D A n c l) (hD : ∀ k, D k → k < w.heap.size) (hn : n ≤ 300) (hfr : fr ≤ 18446744073709551615) (hs : strF l 0 (0, 0) fr = ((f1, t1, sets), q, ((0 : Int), (0 : Int)))) :
    Calls Try.prog 8 #[.slice A n c, .int .u64 (fr : Int)] w fun e w' => e = .returned (.bool true) ∧ Below w.heap.size w w' := by
  obtain ⟨hlen, hnc, hcm⟩ := Rp.sl_len h
  unfold maxLen at hcm
  subst hlen
  have hl : l.length ≤ 1000000000 := by omega
  have hqle : q ≤ l.length := by have := strF_q (l := l) (p := 0) (fr := fr) (f := (0, 0)) (Nat.zero_le _); rw [hs] at this; exact this
  have HNEW : Hid (∀ w', Sl rpU8 w' D A l.length c l → Calls Try.prog 40 #[.slice A l.length c] w' fun e w'' => e = .returned (.pointer (some ⟨w'.heap.size, 0, none⟩)) ∧ Rd w'' D w'.heap.size l 0 (0, 0) ∧ Below w'.heap.size w' w'') := fun w' h => cnew_any h.1 h.2
  have HRD : Hid (∀ (w : World) (g : Nat), Rd w D g l 0 (0, 0) → Calls Try.prog 41 #[.pointer (some ⟨g, 0, none⟩), .int .u64 (fr : Int)] w (StrIs w D g l ((f1, t1, sets), q, ((0 : Int), (0 : Int))))) := fun w g h => by
    have := strRead_any h OkF.nil hl fr hfr
    rw [hs] at this
    exact this
  have HREF : Hid (∀ w', Sl rpU8 w' D A l.length c l → Calls Try.prog 42 #[.agg (rdV A l.length c ((0 : Nat) : Int) (0, 0)), .int .u64 (fr : Int)] w' (RstIs w' A l.length c ((f1, t1, sets), q, ((0 : Int), (0 : Int))))) := fun w' h => by
    have := rstr_any h.1 h.2 OkF.nil (Nat.zero_le _) hl fr hfr
    rw [hs] at this
    exact this
  have hinv := strF_inv (l := l) (p := 0) (fr := fr) (f := (0, 0)) (Nat.zero_le _) (by rw [hs])
  rw [hs] at hinv
  obtain ⟨hfr1, hok, hq, hqq, hst⟩ := hinv
  clear hfr1 hqq
  simp only [Nat.zero_add] at hok hq hst
  have htk : l.take q = stb (f1, t1, sets) := by
    have := hst.eq0 (by rw [← hq]; exact hqle)
    rw [← hq] at this; exact this
  have HOKS := Lib.hid hok
  have HTK := Lib.hid htk
  have hf64 : f1 ≤ 18446744073709551615 := by have := hok.1; have := hok.2.1; simp only at *; omega
  have ht64 : t1 ≤ 18446744073709551615 := by have := hok.2.1; simp only at *; omega
  clear hok hq hst htk
  have hd300 : decide ((300 : Int) < (l.length : Int)) = false := by simp; omega
  have SL_0 : Hid (Sl rpU8 w D A l.length c l) := ⟨h, hD⟩
  have BB_0 : Hid (Below w.heap.size w w) := Below.refl _ _
  have HQ := Lib.hid hqle
  clear h hD hs
  go_enter Try.func8, Try.ntmps8
  go_wp2_with fail
  refine (HNEW.out _ SL_0.out).mono ?_; rintro en w1 ⟨rfl, hr, hb⟩
  obtain ⟨gr, hgr⟩ : ∃ gr, gr = w.heap.size := ⟨_, rfl⟩
  rw [← hgr] at hr
  have SL_1 : Hid (Sl rpU8 w1 D A l.length c l) := keepS SL_0.out hb
  have BB_1 : Hid (Below w.heap.size w w1) := stepB BB_0.out hb
  have RD_1 : Hid (Rd w1 D gr l 0 (0, 0)) := hr
  clear hb
  clear hr
  rw [← hgr]
  have szw : gr ≤ w.heap.size := Nat.le_of_eq hgr
  have HGR := Lib.hid hgr
  clear hgr szw
  go_wp2_with fail
  refine (HRD.out _ _ RD_1.out).mono ?_; rintro en w2 ⟨As, ns, cs, rfl, hll, hr, hc⟩
  have hln := hll.len
  obtain ⟨Ds, hsl⟩ : ∃ Ds, Sl (rpSlice rpU64) w2 Ds As ns cs sets := ⟨_, hll.sl⟩
  clear hll
  have SL_2 : Hid (Sl rpU8 w2 D A l.length c l) := chS SL_1.out hc (fun k hk e => by have e : k = gr := e; have h1 := SL_0.out.2 k hk; have := HGR.out; omega)
  have BB_2 : Hid (Below w.heap.size w w2) := chBase BB_1.out hc (fun k hk => by have e : k = gr := hk; have := HGR.out; omega)
  have RD_2 : Hid (Rd w2 D gr l q ((0 : Int), (0 : Int))) := hr
  have s1_2 : Hid (Sl (rpSlice rpU64) w2 Ds As ns cs sets) := hsl
  clear hr hc hsl
  go_wp2_with fail
  have hb : Below w2.heap.size w2 (w2.alloc (.cells (stpV f1 t1 As ns cs) 31)) := below1 _ (.cells (stpV f1 t1 As ns cs) 31)
  have SL_3 : Hid (Sl rpU8 (w2.alloc (.cells (stpV f1 t1 As ns cs) 31)) D A l.length c l) := keepS SL_2.out hb
  have RD_3 : Hid (Rd (w2.alloc (.cells (stpV f1 t1 As ns cs) 31)) D gr l q ((0 : Int), (0 : Int))) := keepR RD_2.out hb
  have s1_3 : Hid (Sl (rpSlice rpU64) (w2.alloc (.cells (stpV f1 t1 As ns cs) 31)) Ds As ns cs sets) := keepS s1_2.out hb
  have BB_3 : Hid (Below w.heap.size w (w2.alloc (.cells (stpV f1 t1 As ns cs) 31))) := stepB BB_2.out hb
  have sz_2 := BB_2.out.size
  have b6_3 : Hid (Blk (w2.alloc (.cells (stpV f1 t1 As ns cs) 31)) w2.heap.size 31 (stpV f1 t1 As ns cs)) := blk11 _ _ _
  clear hb
  generalize hga : w2.heap.size = ga at *
  generalize World.alloc w2 _ = w3 at *
  refine (HREF.out _ SL_3.out).mono ?_; rintro en w4 ⟨Ar, nr, cr, rfl, hll, hb⟩
  have hln2 := hll.len
  obtain ⟨Dr, hsl⟩ : ∃ Dr, Sl (rpSlice rpU64) w4 Dr Ar nr cr sets := ⟨_, hll.sl⟩
  clear hll
  have SL_4 : Hid (Sl rpU8 w4 D A l.length c l) := keepS SL_3.out hb
  have RD_4 : Hid (Rd w4 D gr l q ((0 : Int), (0 : Int))) := keepR RD_3.out hb
  have s1_4 : Hid (Sl (rpSlice rpU64) w4 Ds As ns cs sets) := keepS s1_3.out hb
  have b6_4 : Hid (Blk w4 ga 31 (stpV f1 t1 As ns cs)) := keepB b6_3.out hb
  have BB_4 : Hid (Below w.heap.size w w4) := stepB BB_3.out hb
  have s2_4 : Hid (Sl (rpSlice rpU64) w4 Dr Ar nr cr sets) := hsl
  clear hb
  clear hsl
  go_wp2_with fail
  have lt_b6_4 := (show Blk w4 ga 31 (stpV f1 t1 As ns cs) from b6_4.out).lt
  have hb : Below w4.heap.size w4 ((w4.alloc (.cells (rdV A l.length c q ((0 : Int), (0 : Int))) 71)).alloc (.cells (stpV f1 t1 Ar nr cr) 31)) := below2 _ (.cells (rdV A l.length c q ((0 : Int), (0 : Int))) 71) (.cells (stpV f1 t1 Ar nr cr) 31)
  have SL_5 : Hid (Sl rpU8 ((w4.alloc (.cells (rdV A l.length c q ((0 : Int), (0 : Int))) 71)).alloc (.cells (stpV f1 t1 Ar nr cr) 31)) D A l.length c l) := keepS SL_4.out hb
  have RD_5 : Hid (Rd ((w4.alloc (.cells (rdV A l.length c q ((0 : Int), (0 : Int))) 71)).alloc (.cells (stpV f1 t1 Ar nr cr) 31)) D gr l q ((0 : Int), (0 : Int))) := keepR RD_4.out hb
  have s1_5 : Hid (Sl (rpSlice rpU64) ((w4.alloc (.cells (rdV A l.length c q ((0 : Int), (0 : Int))) 71)).alloc (.cells (stpV f1 t1 Ar nr cr) 31)) Ds As ns cs sets) := keepS s1_4.out hb
  have b6_5 : Hid (Blk ((w4.alloc (.cells (rdV A l.length c q ((0 : Int), (0 : Int))) 71)).alloc (.cells (stpV f1 t1 Ar nr cr) 31)) ga 31 (stpV f1 t1 As ns cs)) := keepB b6_4.out hb
  have s2_5 : Hid (Sl (rpSlice rpU64) ((w4.alloc (.cells (rdV A l.length c q ((0 : Int), (0 : Int))) 71)).alloc (.cells (stpV f1 t1 Ar nr cr) 31)) Dr Ar nr cr sets) := keepS s2_4.out hb
  have BB_5 : Hid (Below w.heap.size w ((w4.alloc (.cells (rdV A l.length c q ((0 : Int), (0 : Int))) 71)).alloc (.cells (stpV f1 t1 Ar nr cr) 31))) := stepB BB_4.out hb
  have sz_4 := BB_4.out.size
  have b7_5 : Hid (Blk ((w4.alloc (.cells (rdV A l.length c q ((0 : Int), (0 : Int))) 71)).alloc (.cells (stpV f1 t1 Ar nr cr) 31)) w4.heap.size 71 (rdV A l.length c q ((0 : Int), (0 : Int)))) := blk21 _ _ _ _ _
  have b8_5 : Hid (Blk ((w4.alloc (.cells (rdV A l.length c q ((0 : Int), (0 : Int))) 71)).alloc (.cells (stpV f1 t1 Ar nr cr) 31)) (w4.heap.size + 1) 31 (stpV f1 t1 Ar nr cr)) := blk22 _ _ _ _ _
  clear hb
  generalize hgb : w4.heap.size = gb at *
  generalize World.alloc (World.alloc w4 _) _ = w5 at *
  have zq_b60_5 : ∀ x : Gr w5.heap.size w5, x.val.cell? ⟨ga, 0, none⟩ = _ := fun x => (keepB (show Blk w5 ga 31 (stpV f1 t1 As ns cs) from b6_5.out) x.is).cell 0
  have zq_b61_5 : ∀ x : Gr w5.heap.size w5, x.val.cell? ⟨ga, 1, none⟩ = _ := fun x => (keepB (show Blk w5 ga 31 (stpV f1 t1 As ns cs) from b6_5.out) x.is).cell 1
  have zq_b62_5 : ∀ x : Gr w5.heap.size w5, x.val.cell? ⟨ga, 2, none⟩ = _ := fun x => (keepB (show Blk w5 ga 31 (stpV f1 t1 As ns cs) from b6_5.out) x.is).cell 2
  have zq_b80_5 : ∀ x : Gr w5.heap.size w5, x.val.cell? ⟨(gb + 1), 0, none⟩ = _ := fun x => (keepB (show Blk w5 (gb + 1) 31 (stpV f1 t1 Ar nr cr) from b8_5.out) x.is).cell 0
  have zq_b81_5 : ∀ x : Gr w5.heap.size w5, x.val.cell? ⟨(gb + 1), 1, none⟩ = _ := fun x => (keepB (show Blk w5 (gb + 1) 31 (stpV f1 t1 Ar nr cr) from b8_5.out) x.is).cell 1
  have zq_b82_5 : ∀ x : Gr w5.heap.size w5, x.val.cell? ⟨(gb + 1), 2, none⟩ = _ := fun x => (keepB (show Blk w5 (gb + 1) 31 (stpV f1 t1 Ar nr cr) from b8_5.out) x.is).cell 2
  have zq_b72_5 : ∀ x : Gr w5.heap.size w5, x.val.cell? ⟨gb, 2, none⟩ = _ := fun x => (keepB (show Blk w5 gb 71 (rdV A l.length c q ((0 : Int), (0 : Int))) from b7_5.out) x.is).cell 2
  have zq_b73_5 : ∀ x : Gr w5.heap.size w5, x.val.cell? ⟨gb, 3, none⟩ = _ := fun x => (keepB (show Blk w5 gb 71 (rdV A l.length c q ((0 : Int), (0 : Int))) from b7_5.out) x.is).cell 3
  have RQ : Hid (∀ x : Gr w5.heap.size w5, Rd x.val D gr l q ((0 : Int), (0 : Int))) := fun x => keepR (show Rd w5 D gr l q ((0 : Int), (0 : Int)) from RD_5.out) x.is
  have hsm := fun qq : Gr w5.heap.size w5 => rsame_any (f := f1) (t := t1) (f' := f1) (t' := t1) (keepS s1_5.out qq.is).1 (keepS s2_5.out qq.is).1 (keepS s1_5.out qq.is).2 (keepS s2_5.out qq.is).2
  rw [dec_true rfl] at hsm
  have HSM := Lib.hid hsm
  clear hsm
  refine wp_region_grow (by kernel_rfl) (by kernel_rfl) w5.heap.size ?_
  repeat (first | go_big_quiet_step ((first | (go_at_call 43; exact Gr.call _ (Nat.le_refl _) (HSM.out _)) | (go_at_call 44; exact Gr.call _ (Nat.le_refl _) (cfault_at (RQ.out _))))) | quiet_step ((first | (go_at_call 43; exact Gr.call _ (Nat.le_refl _) (HSM.out _)) | (go_at_call 44; exact Gr.call _ (Nat.le_refl _) (cfault_at (RQ.out _))))))
  refine wpQuiet_nil ?_
  rintro w6 ⟨⟨_, hb⟩, rfl⟩
  clear zq_b60_5 zq_b61_5 zq_b62_5 zq_b80_5 zq_b81_5 zq_b82_5 zq_b72_5 zq_b73_5 RQ
  have SL_6 : Hid (Sl rpU8 w6 D A l.length c l) := keepS SL_5.out hb
  have RD_6 : Hid (Rd w6 D gr l q ((0 : Int), (0 : Int))) := keepR RD_5.out hb
  have s1_6 : Hid (Sl (rpSlice rpU64) w6 Ds As ns cs sets) := keepS s1_5.out hb
  have b6_6 : Hid (Blk w6 ga 31 (stpV f1 t1 As ns cs)) := keepB b6_5.out hb
  have s2_6 : Hid (Sl (rpSlice rpU64) w6 Dr Ar nr cr sets) := keepS s2_5.out hb
  have b7_6 : Hid (Blk w6 gb 71 (rdV A l.length c q ((0 : Int), (0 : Int)))) := keepB b7_5.out hb
  have b8_6 : Hid (Blk w6 (gb + 1) 31 (stpV f1 t1 Ar nr cr)) := keepB b8_5.out hb
  have BB_6 : Hid (Below w.heap.size w w6) := stepB BB_5.out hb
  clear hb
  have z_b71_6 := (show Blk w6 gb 71 (rdV A l.length c q ((0 : Int), (0 : Int))) from b7_6.out).cell 1
  have z_b72_6 := (show Blk w6 gb 71 (rdV A l.length c q ((0 : Int), (0 : Int))) from b7_6.out).cell 2
  have z_b73_6 := (show Blk w6 gb 71 (rdV A l.length c q ((0 : Int), (0 : Int))) from b7_6.out).cell 3
  have z_b60_6 := (show Blk w6 ga 31 (stpV f1 t1 As ns cs) from b6_6.out).cell 0
  have z_b61_6 := (show Blk w6 ga 31 (stpV f1 t1 As ns cs) from b6_6.out).cell 1
  have z_b62_6 := (show Blk w6 ga 31 (stpV f1 t1 As ns cs) from b6_6.out).cell 2
  go_wp2_with fail
  obtain ⟨Ac, hcut, hsc⟩ := run_cut_h elemU (SL_6.out).1 rfl (q : Int) (by omega) (by omega)
  rw [Int.toNat_natCast] at hcut hsc
  have HSC : Hid (Sl rpU8 w6 D Ac q c (l.take q)) := ⟨hsc, (SL_6.out).2⟩
  clear hsc
  have HCK : Hid (∀ w', Below w6.heap.size w6 w' → w'.cell? ⟨gb, 1, none⟩ = some (.int .i64 (q : Int)) ∧ w'.cell? ⟨ga, 0, none⟩ = some (.int .u64 (f1 : Int)) ∧ w'.cell? ⟨ga, 1, none⟩ = some (.int .u64 (t1 : Int)) ∧ w'.cell? ⟨ga, 2, none⟩ = some (.slice As ns cs)) := fun w' hb => ⟨(keepB (show Blk w6 gb 71 (rdV A l.length c q ((0 : Int), (0 : Int))) from b7_6.out) hb).cell 1, (keepB (show Blk w6 ga 31 (stpV f1 t1 As ns cs) from b6_6.out) hb).cell 0, (keepB (show Blk w6 ga 31 (stpV f1 t1 As ns cs) from b6_6.out) hb).cell 1, (keepB (show Blk w6 ga 31 (stpV f1 t1 As ns cs) from b6_6.out) hb).cell 2⟩
  have hrt := rright_any (keepS s1_6.out (Below.refl w6.heap.size w6).drew).1 (keepS s1_6.out (Below.refl w6.heap.size w6).drew).2 hf64 ht64
  rw [dec_true HOKS.out] at hrt
  have HRT := Lib.hid hrt
  clear hrt
  have HRY := Lib.hid (keepR RD_6.out (Below.refl w6.heap.size w6).drew)
  have hbe : (stb (f1, t1, sets) == stb (f1, t1, sets)) = true := by simp
  go_region_held3 (fun w' => w'.cell? ⟨gb, 1, none⟩ = some (.int .i64 (q : Int)) ∧ w'.cell? ⟨ga, 0, none⟩ = some (.int .u64 (f1 : Int)) ∧ w'.cell? ⟨ga, 1, none⟩ = some (.int .u64 (t1 : Int)) ∧ w'.cell? ⟨ga, 2, none⟩ = some (.slice As ns cs))
    (first | exact HCK.out _ HBL.out | exact HCK.out _ HBY.out | exact HCK.out _ HBR.out | exact HCK.out _ (Below.refl _ _) | exact HCK.out _ (Below.refl _ _).drew | go_keep)
    (first
      | (go_at_call 45; refine (cat_at HRY.out).mono ?_; rintro en wx ⟨rfl, rfl⟩)
      | (go_at_call 46; refine HRT.out.mono ?_; rintro en wr ⟨rfl, hb⟩; have HBR : Hid (Below w6.heap.size w6 wr) := ⟨hb.os, hb.tape, hb.output, hb.size, hb.block⟩; clear hb)
      | (go_at_call 48; refine (rsb_any (keepS s1_6.out HBR.out).1 (keepS s1_6.out HBR.out).2 HOKS.out).mono ?_; rintro en wy ⟨Ay, ny, cy, rfl, ho, hb⟩; have HBY := Lib.hid (stepB HBR.out hb); have hsm := same_any _ _ _ _ _ _ _ _ _ _ wy (own_bytes ho) (keepS HSC.out HBY.out).1; rw [HTK.out] at hsm; have HSM2 := Lib.hid hsm; clear hb ho hsm)
      | (go_at_call 47; refine HSM2.out.mono ?_; rintro en wz ⟨rfl, rfl⟩)
      | (go_at_call 39; refine (slive_any _).mono ?_; rintro en wl ⟨rfl, hb⟩; have HBL := Lib.hid (stepB HBY.out hb); clear hb))
  go_wp2_with fail
  go_ret
  exact ⟨rfl, stepB BB_6.out HBL.out⟩
theorem streads_long (h : rpU8.sl w D A n c l) (hn : 300 < n) :
    Calls Try.prog 8 #[.slice A n c, .int .u64 (fr : Int)] w fun e w' => e = .returned (.bool true) ∧ Below w.heap.size w w' := by
  have hd : decide ((300 : Int) < (n : Int)) = true := by simp; omega
  have HLV := Lib.hid (slive_any w)
  clear h
  go_enter Try.func8, Try.ntmps8
  go_wp2_with fail
  refine HLV.out.mono ?_; rintro en w1 ⟨rfl, hb⟩
  go_wp2_with fail
  go_ret
  exact ⟨rfl, hb⟩
end
theorem stripeReads_any (A : Option Addr) (n c : Nat) (l : List UInt8) (p : Int) (w : World) (h : rpU8.sl w (lt w.heap.size) A n c l) (p0 : 0 ≤ p) (p1 : p ≤ 18446744073709551615) :
    Calls Try.prog 8 #[.slice A n c, .int .u64 p] w fun e w' => e = .returned (.bool true) ∧ Below w.heap.size w w' := by
  have hD : ∀ k, lt w.heap.size k → k < w.heap.size := fun k hk => hk
  obtain ⟨fr, rfl⟩ : ∃ q : Nat, p = q := ⟨p.toNat, by omega⟩
  by_cases hn : 300 < n
  · exact streads_long h hn
  have hok := strF_ok (l := l) (p := 0) (fr := fr) OkF.nil
  have hf0 := @strF_fail0 l 0 fr (0, 0)
  rcases hs : strF l 0 (0, 0) fr with ⟨⟨f1, t1, sets⟩, q, F1, F2⟩
  rw [hs] at hok hf0
  simp only at hok hf0
  by_cases hF : F1 = 0
  · have h00 := hok.eq hF
    injection h00 with e1 e2
    subst e1; subst e2
    exact streads_good h hD (by omega) (by omega) hs
  · obtain ⟨rfl, rfl, rfl⟩ : f1 = 0 ∧ t1 = 0 ∧ sets = [] := by
      have := hf0 hF
      injection this with e1 e2
      injection e2 with e2 e3
      exact ⟨e1, e2, e3⟩
    exact streads_bad h hD (by omega) (by omega) hs hF
end Go.Proofs.Ytmdgmnaaopineaa
