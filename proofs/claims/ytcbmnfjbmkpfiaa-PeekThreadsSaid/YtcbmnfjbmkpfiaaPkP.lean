/- peek.Join. -/
import Derived.Test.YtcbmnfjbmkpfiaaPkN
namespace Go.Proofs.Ytcbmnfjbmkpfiaa
open Go.ChangeShapes Go.WideShapes Go.ChangeAt Go.RowKit
set_option linter.unusedVariables false
theorem blk31 (w : World) (t t' t'' : TypeId) (cs cs' cs'' : Array Value) : Blk (((w.alloc (.cells cs t)).alloc (.cells cs' t')).alloc (.cells cs'' t'')) w.heap.size t cs := (blk21 w t t' cs cs').alloc _
theorem blk32 (w : World) (t t' t'' : TypeId) (cs cs' cs'' : Array Value) : Blk (((w.alloc (.cells cs t)).alloc (.cells cs' t')).alloc (.cells cs'' t'')) (w.heap.size + 1) t' cs' := (blk22 w t t' cs cs').alloc _
theorem blk33 (w : World) (t t' t'' : TypeId) (cs cs' cs'' : Array Value) : Blk (((w.alloc (.cells cs t)).alloc (.cells cs' t')).alloc (.cells cs'' t'')) (w.heap.size + 2) t'' cs'' := by
  have h := Blk.new ((w.alloc (.cells cs t)).alloc (.cells cs' t')) t'' cs''
  have e : ((w.alloc (.cells cs t)).alloc (.cells cs' t')).heap.size = w.heap.size + 2 := by simp
  rw [e] at h
  exact h
/-- What a join tells. -/
noncomputable def joinC (ep b : Nat) (es : List Ent) (ep2 b2 : Nat) (es2 : List Ent) : Int :=
  if dec (BatOk ep b es) && dec (BatOk ep2 b2 es2) then (if dec (endN b es.length = b2 ∧ ep = ep2) then (if dec (BatOk ep b (es ++ es2)) then 0 else 2) else 13) else 3
def JoinIs (w : World) (ep b : Nat) (es : List Ent) (ep2 b2 : Nat) (es2 : List Ent) (e : Ending) (w' : World) : Prop :=
  Below w.heap.size w w' ∧ ((joinC ep b es ep2 b2 es2 = 0 ∧ ∃ A' c', e = .returned (.tuple #[.agg (batV ep b A' (es.length + es2.length) c'), .int .i64 0]) ∧ rpEnt.sl w' (fun k => k < w'.heap.size) A' (es.length + es2.length) c' (es ++ es2)) ∨
    (joinC ep b es ep2 b2 es2 ≠ 0 ∧ e = .returned (.tuple #[.agg zB, .int .i64 (joinC ep b es ep2 b2 es2)])))
set_option maxRecDepth 100000 in
theorem bf2 (e b : Nat) (A : Option Addr) (n c : Nat) (w : World) : (Instr.field 25 (.agg #[.int .u64 (e : Int), .int .u64 (b : Int), .slice A n c]) 2).run Try.prog w = .ok (.slice A n c) w := rfl
theorem tot_app (a b : List Ent) : totL (a ++ b) = totL a + totL b := by unfold totL; rw [List.map_append, List.sum_append]
section
variable {D D' : Dom} {A A2 : Option Addr} {n c ep b m c2 ep2 b2 : Nat} {es es2 : List Ent} {w : World}
set_option maxRecDepth 100000 in
set_option maxHeartbeats 4000000 in
theorem join_any (hs : rpEnt.sl w D A n c es) (hD : ∀ k, D k → k < w.heap.size) (hE : EBd es) (hT : totL es ≤ 50000) (he : ep ≤ 18446744073709551615) (hb : b ≤ 18446744073709551615)
    (hs2 : rpEnt.sl w D' A2 m c2 es2) (hD2 : ∀ k, D' k → k < w.heap.size) (hE2 : EBd es2) (hT2 : totL es2 ≤ 50000) (he2 : ep2 ≤ 18446744073709551615) (hb2 : b2 ≤ 18446744073709551615) (hnm : n + m ≤ 1000) :
    Calls Try.prog 9 #[.agg (batV ep b A n c), .agg (batV ep2 b2 A2 m c2)] w (JoinIs w ep b es ep2 b2 es2) := by
  have hbl := below3 w (.cells (batV ep b A n c) 25) (.cells (batV ep2 b2 A2 m c2) 25) (.cells zB 25)
  have HB2 := Lib.hid hbl
  have K1 := Lib.hid (blk31 w 25 25 25 (batV ep b A n c) (batV ep2 b2 A2 m c2) zB)
  have K2 := Lib.hid (blk32 w 25 25 25 (batV ep b A n c) (batV ep2 b2 A2 m c2) zB)
  have K3 := Lib.hid (blk33 w 25 25 25 (batV ep b A n c) (batV ep2 b2 A2 m c2) zB)
  have HS := Lib.hid (keepS (show Sl rpEnt w D A n c es from ⟨hs, hD⟩) hbl)
  have HS2 := Lib.hid (keepS (show Sl rpEnt w D' A2 m c2 es2 from ⟨hs2, hD2⟩) hbl)
  have HN := Lib.hid (Rp.sl_len hs).1
  have HM := Lib.hid (Rp.sl_len hs2).1
  have HE := Lib.hid hE
  have HE2 := Lib.hid hE2
  have HT := Lib.hid hT
  have HT2 := Lib.hid hT2
  have HHE := Lib.hid he
  have HHB := Lib.hid hb
  have HHE2 := Lib.hid he2
  have HHB2 := Lib.hid hb2
  have HSZ : Hid ((Try.prog.info? 25).map (·.size) = some 3) := by show _ = _; kernel_rfl
  obtain ⟨gz, hgz⟩ : ∃ gz, gz = w.heap.size := ⟨_, rfl⟩
  rw [← hgz] at K1 K2 K3
  have HGZ := Lib.hid hgz
  clear hs hD hbl hE hT he hb hs2 hD2 hE2 hT2 he2 hb2
  obtain ⟨q1, hq1⟩ : ∃ q, dec (BatOk ep b es) = q := ⟨_, rfl⟩
  have HQ1 := Lib.hid hq1
  obtain ⟨q2, hq2⟩ : ∃ q, dec (BatOk ep2 b2 es2) = q := ⟨_, rfl⟩
  have HQ2 := Lib.hid hq2
  obtain ⟨q4, hq4⟩ : ∃ q, dec (BatOk ep b (es ++ es2)) = q := ⟨_, rfl⟩
  have HQ4 := Lib.hid hq4
  clear hq1 hq2 hq4
  have BADF : Hid (∀ (w5 : World), Below w.heap.size w w5 → ∀ w6 (x : Int), w5.grownBy w6 (some (gz + 2)) → joinC ep b es ep2 b2 es2 = x → x ≠ 0 → JoinIs w ep b es ep2 b2 es2 (.returned (.tuple #[.agg zB, .int .i64 x])) w6) := fun w5 hb5 w6 x hg hx h0 =>
    ⟨hb5.grown hg hb5.size (fun q hq => by have e' : gz + 2 = q := Option.some.inj hq; have := HGZ.out; omega), .inr ⟨by rw [hx]; exact h0, by rw [hx]⟩⟩
  obtain ⟨en, hen⟩ : ∃ en, en = endN b n := ⟨_, rfl⟩
  have HEE := Lib.hid hen
  clear hen
  go_enter Try.func9, Try.ntmps9
  go_upto_region 1 with (fail)
  rw [← hgz]
  clear hgz
  generalize World.alloc (World.alloc (World.alloc w _) _) _ = w2 at *
  have k0 := (show Blk w2 gz 25 (batV ep b A n c) from K1.out).cell 0
  have k1 := (show Blk w2 gz 25 (batV ep b A n c) from K1.out).cell 1
  have k2 := (show Blk w2 gz 25 (batV ep b A n c) from K1.out).cell 2
  have hbr := bright_any HS.out.1 HS.out.2 (show n ≤ 1000 by omega) (Nat.le_trans HT.out (by decide)) HHE.out HHB.out
  rw [HQ1.out] at hbr
  have HBR := Lib.hid hbr
  clear hbr
  go_wp2_with fail
  refine HBR.out.mono ?_; rintro e w3 ⟨rfl, hb3⟩
  have HB3 := Lib.hid (stepB HB2.out hb3)
  have K1w3 := Lib.hid (keepB (show Blk w2 gz 25 (batV ep b A n c) from K1.out) hb3)
  have K2w3 := Lib.hid (keepB (show Blk w2 (gz + 1) 25 (batV ep2 b2 A2 m c2) from K2.out) hb3)
  have K3w3 := Lib.hid (keepB (show Blk w2 (gz + 2) 25 zB from K3.out) hb3)
  have HSw3 := Lib.hid (keepS HS.out hb3)
  have HS2w3 := Lib.hid (keepS HS2.out hb3)
  clear hb3 k0 k1 k2
  cases q1
  case false =>
    have HNO : Hid (joinC ep b es ep2 b2 es2 = 3) := by show _ = _; unfold joinC; rw [HQ1.out]; rfl
    go_wp2_with (refine wpList_put_row rfl 25 (.tmp 4) (.tmp 16) rfl (gz + 2) zB rfl rfl 25 _ K3w3.out HSZ.out rfl (by simp [Value.oneCell']) ?_; intro w6 hblk hgr)
    try rw [Exit.noGoto_ret]
    have x0 := (show Blk w6 (gz + 2) 25 zB from hblk).cell 0
    have x1 := (show Blk w6 (gz + 2) 25 zB from hblk).cell 1
    have x2 := (show Blk w6 (gz + 2) 25 zB from hblk).cell 2
    refine bodyPost_ret (v := .tuple #[.agg zB, .int .i64 3]) (by simp [results, Try.results9, go_sem, x0, x1, x2]) rfl (BADF.out _ HB3.out _ _ hgr HNO.out (by decide))
  case true =>
  have k0 := (show Blk w3 (gz + 1) 25 (batV ep2 b2 A2 m c2) from K2w3.out).cell 0
  have k1 := (show Blk w3 (gz + 1) 25 (batV ep2 b2 A2 m c2) from K2w3.out).cell 1
  have k2 := (show Blk w3 (gz + 1) 25 (batV ep2 b2 A2 m c2) from K2w3.out).cell 2
  have hbr := bright_any HS2w3.out.1 HS2w3.out.2 (show m ≤ 1000 by omega) (Nat.le_trans HT2.out (by decide)) HHE2.out HHB2.out
  rw [HQ2.out] at hbr
  have HBR2 := Lib.hid hbr
  clear hbr
  go_wp2_with fail
  refine HBR2.out.mono ?_; rintro e w4 ⟨rfl, hb4⟩
  have HB4 := Lib.hid (stepB HB3.out hb4)
  have K1w4 := Lib.hid (keepB (show Blk w3 gz 25 (batV ep b A n c) from K1w3.out) hb4)
  have K2w4 := Lib.hid (keepB (show Blk w3 (gz + 1) 25 (batV ep2 b2 A2 m c2) from K2w3.out) hb4)
  have K3w4 := Lib.hid (keepB (show Blk w3 (gz + 2) 25 zB from K3w3.out) hb4)
  have HSw4 := Lib.hid (keepS HSw3.out hb4)
  have HS2w4 := Lib.hid (keepS HS2w3.out hb4)
  clear hb4 k0 k1 k2
  cases q2
  case false =>
    have HNO : Hid (joinC ep b es ep2 b2 es2 = 3) := by show _ = _; unfold joinC; rw [HQ1.out, HQ2.out]; rfl
    go_wp2_with (refine wpList_put_row rfl 25 (.tmp 4) (.tmp 16) rfl (gz + 2) zB rfl rfl 25 _ K3w4.out HSZ.out rfl (by simp [Value.oneCell']) ?_; intro w6 hblk hgr)
    try rw [Exit.noGoto_ret]
    have x0 := (show Blk w6 (gz + 2) 25 zB from hblk).cell 0
    have x1 := (show Blk w6 (gz + 2) 25 zB from hblk).cell 1
    have x2 := (show Blk w6 (gz + 2) 25 zB from hblk).cell 2
    refine bodyPost_ret (v := .tuple #[.agg zB, .int .i64 3]) (by simp [results, Try.results9, go_sem, x0, x1, x2]) rfl (BADF.out _ HB4.out _ _ hgr HNO.out (by decide))
  case true =>
  have HED := Lib.hid (fun qq : Gr w4.heap.size w4 => end_any (ep := ep) (A := A) (c := c) qq.val (show n ≤ 1000000 by omega) HHB.out)
  rw [← HEE.out] at HED
  have g0 : ∀ qq : Gr w4.heap.size w4, qq.val.cell? ⟨gz, 0, none⟩ = _ := fun qq => (keepB (show Blk w4 gz 25 (batV ep b A n c) from K1w4.out) qq.is).cell 0
  have g1 : ∀ qq : Gr w4.heap.size w4, qq.val.cell? ⟨gz, 1, none⟩ = _ := fun qq => (keepB (show Blk w4 gz 25 (batV ep b A n c) from K1w4.out) qq.is).cell 1
  have g2 : ∀ qq : Gr w4.heap.size w4, qq.val.cell? ⟨gz, 2, none⟩ = _ := fun qq => (keepB (show Blk w4 gz 25 (batV ep b A n c) from K1w4.out) qq.is).cell 2
  have i0 : ∀ qq : Gr w4.heap.size w4, qq.val.cell? ⟨gz + 1, 0, none⟩ = _ := fun qq => (keepB (show Blk w4 (gz + 1) 25 (batV ep2 b2 A2 m c2) from K2w4.out) qq.is).cell 0
  have i1 : ∀ qq : Gr w4.heap.size w4, qq.val.cell? ⟨gz + 1, 1, none⟩ = _ := fun qq => (keepB (show Blk w4 (gz + 1) 25 (batV ep2 b2 A2 m c2) from K2w4.out) qq.is).cell 1
  go_wp2_with fail
  by_cases c1 : en = b2
  case neg =>
    have c1a : ((en : Int) != (b2 : Int)) = true := by simp; omega
    have HNE : Hid (¬ en = b2) := c1
    clear c1
    refine wp_region_grow (by kernel_rfl) (by kernel_rfl) w4.heap.size ?_
    repeat (first | go_big_quiet_step ((go_at_call 30; exact Gr.call _ (Nat.le_refl _) (HED.out _))) | quiet_step ((go_at_call 30; exact Gr.call _ (Nat.le_refl _) (HED.out _))))
    refine wpQuiet_nil ?_
    rintro w5 ⟨⟨_, hb5⟩, rfl⟩
    have HB5 := Lib.hid (stepB HB4.out hb5)
    have K3w5 := Lib.hid (keepB (show Blk w4 (gz + 2) 25 zB from K3w4.out) hb5)
    clear g0 g1 g2 i0 i1 hb5
    have HNO : Hid (joinC ep b es ep2 b2 es2 = 13) := by
        show _ = _
        unfold joinC
        rw [HQ1.out, HQ2.out, dec_false (fun h => HNE.out (by rw [HEE.out, ← HN.out]; exact h.1))]; rfl
    go_wp2_with (refine wpList_put_row rfl 25 (.tmp 4) (.tmp 30) rfl (gz + 2) zB rfl rfl 25 _ K3w5.out HSZ.out rfl (by simp [Value.oneCell']) ?_; intro w6 hblk hgr)
    try rw [Exit.noGoto_ret]
    have x0 := (show Blk w6 (gz + 2) 25 zB from hblk).cell 0
    have x1 := (show Blk w6 (gz + 2) 25 zB from hblk).cell 1
    have x2 := (show Blk w6 (gz + 2) 25 zB from hblk).cell 2
    refine bodyPost_ret (v := .tuple #[.agg zB, .int .i64 13]) (by simp [results, Try.results9, go_sem, x0, x1, x2]) rfl (BADF.out _ HB5.out _ _ hgr HNO.out (by decide))
  case pos =>
  have c1a : ((en : Int) != (b2 : Int)) = false := by simp; omega
  have HEQ : Hid (en = b2) := c1
  clear c1
  by_cases c2' : ep = ep2
  case neg =>
    have c2a : ((ep : Int) != (ep2 : Int)) = true := by simp; omega
    have HNE : Hid (¬ ep = ep2) := c2'
    clear c2'
    refine wp_region_grow (by kernel_rfl) (by kernel_rfl) w4.heap.size ?_
    repeat (first | go_big_quiet_step ((go_at_call 30; exact Gr.call _ (Nat.le_refl _) (HED.out _))) | quiet_step ((go_at_call 30; exact Gr.call _ (Nat.le_refl _) (HED.out _))))
    refine wpQuiet_nil ?_
    rintro w5 ⟨⟨_, hb5⟩, rfl⟩
    have HB5 := Lib.hid (stepB HB4.out hb5)
    have K3w5 := Lib.hid (keepB (show Blk w4 (gz + 2) 25 zB from K3w4.out) hb5)
    clear g0 g1 g2 i0 i1 hb5
    have HNO : Hid (joinC ep b es ep2 b2 es2 = 13) := by
        show _ = _
        unfold joinC
        rw [HQ1.out, HQ2.out, dec_false (fun h => HNE.out h.2)]; rfl
    go_wp2_with (refine wpList_put_row rfl 25 (.tmp 4) (.tmp 30) rfl (gz + 2) zB rfl rfl 25 _ K3w5.out HSZ.out rfl (by simp [Value.oneCell']) ?_; intro w6 hblk hgr)
    try rw [Exit.noGoto_ret]
    have x0 := (show Blk w6 (gz + 2) 25 zB from hblk).cell 0
    have x1 := (show Blk w6 (gz + 2) 25 zB from hblk).cell 1
    have x2 := (show Blk w6 (gz + 2) 25 zB from hblk).cell 2
    refine bodyPost_ret (v := .tuple #[.agg zB, .int .i64 13]) (by simp [results, Try.results9, go_sem, x0, x1, x2]) rfl (BADF.out _ HB5.out _ _ hgr HNO.out (by decide))
  case pos =>
  have c2a : ((ep : Int) != (ep2 : Int)) = false := by simp; omega
  have HEQ2 : Hid (ep = ep2) := c2'
  clear c2'
  refine wp_region_grow (by kernel_rfl) (by kernel_rfl) w4.heap.size ?_
  repeat (first | go_big_quiet_step ((go_at_call 30; exact Gr.call _ (Nat.le_refl _) (HED.out _))) | quiet_step ((go_at_call 30; exact Gr.call _ (Nat.le_refl _) (HED.out _))))
  refine wpQuiet_nil ?_
  rintro w5 ⟨⟨_, hb5⟩, rfl⟩
  have HB5 := Lib.hid (stepB HB4.out hb5)
  have K1w5 := Lib.hid (keepB (show Blk w4 gz 25 (batV ep b A n c) from K1w4.out) hb5)
  have K2w5 := Lib.hid (keepB (show Blk w4 (gz + 1) 25 (batV ep2 b2 A2 m c2) from K2w4.out) hb5)
  have K3w5 := Lib.hid (keepB (show Blk w4 (gz + 2) 25 zB from K3w4.out) hb5)
  have HSw5 := Lib.hid (keepS HSw4.out hb5)
  have HS2w5 := Lib.hid (keepS HS2w4.out hb5)
  clear g0 g1 g2 i0 i1 hb5
  have k0 := (show Blk w5 gz 25 (batV ep b A n c) from K1w5.out).cell 0
  have k1 := (show Blk w5 gz 25 (batV ep b A n c) from K1w5.out).cell 1
  have k2 := (show Blk w5 gz 25 (batV ep b A n c) from K1w5.out).cell 2
  have HC := Lib.hid (bcopy_any (ep := ep) (b := b) HSw5.out.1 HSw5.out.2 HE.out)
  go_upto_region 6 with
    (go_at_call 31
     refine HC.out.mono ?_
     rintro e w6 ⟨A5, c5, rfl, ht5, hb6⟩
     have hba := below1 w6 (.cells (batV ep b A5 n c5) 25)
     have HB7 := Lib.hid (stepB HB5.out (stepB hb6 hba))
     have HT7 := Lib.hid (TB.below ht5 hba)
     have KO7 := Lib.hid (blk11 w6 25 (batV ep b A5 n c5))
     have K2w7 := Lib.hid (keepB (show Blk w5 (gz + 1) 25 (batV ep2 b2 A2 m c2) from K2w5.out) (stepB hb6 hba))
     have K3w7 := Lib.hid (keepB (show Blk w5 (gz + 2) 25 zB from K3w5.out) (stepB hb6 hba))
     have HS2w7 := Lib.hid (keepS HS2w5.out (stepB hb6 hba))
     have HZ6 := Lib.hid (Nat.lt_of_lt_of_le (show Blk w5 (gz + 2) 25 zB from K3w5.out).lt hb6.size)
     have HZ7 := Lib.hid (stepB hb6 hba).size
     clear ht5 hb6 hba k0 k1 k2)
  obtain ⟨go, hgo⟩ : ∃ go, go = w6.heap.size := ⟨_, rfl⟩
  rw [← hgo] at KO7 HZ6 ⊢
  clear hgo
  generalize World.alloc w6 _ = w7 at *
  obtain ⟨vals, rv, htv⟩ := HT7.out
  have HTV := Lib.hid htv
  clear htv
  have HCP : Hid (∀ w', Below w7.heap.size w7 w' → Calls Try.prog 31 #[.agg (batV ep2 b2 A2 m c2)] w' (BCopyIs w' ep2 b2 m es2)) := fun w' hu => by
    have h := keepS HS2w7.out hu
    exact bcopy_any h.1 h.2 HE2.out
  have k0 := (show Blk w7 (gz + 1) 25 (batV ep2 b2 A2 m c2) from K2w7.out).cell 0
  have k1 := (show Blk w7 (gz + 1) 25 (batV ep2 b2 A2 m c2) from K2w7.out).cell 1
  have k2 := (show Blk w7 (gz + 1) 25 (batV ep2 b2 A2 m c2) from K2w7.out).cell 2
  have o2 := (show Blk w7 go 25 (batV ep b A5 n c5) from KO7.out).cell 2
  have of2 := (show Blk w7 go 25 (batV ep b A5 n c5) from KO7.out).frozen 2
  have hbf := bf2
  have hnm2 : n + m ≤ maxLen := by unfold maxLen; omega
  go_region_law ((first
    | (refine step_app rfl (.tmp 34) (.tmp 37) _ (by rfl) elemEnt (by rfl) HOV.out (by rfl) HSR.out (by unfold maxLen; omega) (by omega) HZV.out ?_
       intro A8 c8 w9 ho9 hg9 hat9
       have HT9 := Lib.hid (TBv.app HTV0.out HB78.out HZW.out HTV2.out ho9 hg9)
       have hk9 := (show Blk w8 go 25 (batV ep b A5 n c5) from KO8.out).grown hg9 (fun e => by
         obtain ⟨cs, hcs⟩ := own_type HOV.out e.symm
         exact absurd (blk_type KO8.out hcs) (by decide))
       have hk93 := (show Blk w8 (gz + 2) 25 zB from K3w8.out).grown hg9 (fun e => by
         obtain ⟨cs, hcs⟩ := own_type HOV.out e.symm
         exact absurd (blk_type K3w8.out hcs) (by decide))
       have p2 := hk9.cell 2
       have pf2 := hk9.frozen 2
       have KO9 := Lib.hid hk9
       have K3w9 := Lib.hid hk93
       have HB9 := Lib.hid (HB8.out.grown hg9 HB8.out.size (fun q hq => by have := (HOV.out.lt q hq).1; have := HB5.out.size; omega))
       clear ho9 hg9 hat9 hk9 hk93)
    | (go_simp; with_reducible refine (HCP.out _ ((Below.refl _ _).drew)).mono ?_
       rintro e w8 ⟨A7, c7, rfl, ht8, hb8⟩
       have hb8' : Below w7.heap.size w7 w8 := ⟨hb8.os, hb8.tape, hb8.output, hb8.size, hb8.block⟩
       obtain ⟨vals2, rv2, htv2⟩ := ht8
       have HTV0 := HTV
       have HB78 := Lib.hid hb8'
       have HB8 := Lib.hid (stepB HB7.out hb8')
       have HTV2 : Hid (TBv vals2 rv2 (fun _ => False) w8 w7.heap.size A7 m c7 es2) := htv2
       have HOV := Lib.hid (HTV.out.below hb8').1
       have HSR := Lib.hid (Src.tb htv2)
       have HZW : Hid (w5.heap.size ≤ w7.heap.size) := HZ7
       have HZV : Hid (w5.heap.size ≤ w8.heap.size) := Nat.le_trans HZ7.out hb8'.size
       have KO8 := Lib.hid (keepB (show Blk w7 go 25 (batV ep b A5 n c5) from KO7.out) hb8')
       have K3w8 := Lib.hid (keepB (show Blk w7 (gz + 2) 25 zB from K3w7.out) hb8')
       have v2 := (show Blk w8 go 25 (batV ep b A5 n c5) from KO8.out).cell 2
       clear hb8 hb8' htv2
       dsimp only [batV])))
  all_goals
    have hg10 : w9.grownBy (w9.setCell ⟨go, 2, none⟩ (.slice A8 (n + m) c8)) (some go) := grown_setCell w9 ⟨go, 2, none⟩ _
    have HT10 := Lib.hid (TB.turned HT9.out KO9.out (by unfold TD; decide) (fun h => h) (.inl ⟨by decide, by decide⟩) hg10)
    have KO10 : Hid (Blk (w9.setCell ⟨go, 2, none⟩ (.slice A8 (n + m) c8)) go 25 (batV ep b A8 (n + m) c8)) := (show Blk w9 go 25 (batV ep b A5 n c5) from KO9.out).put 2 _
    have K3w10 : Hid (Blk (w9.setCell ⟨go, 2, none⟩ (.slice A8 (n + m) c8)) (gz + 2) 25 zB) := (show Blk w9 (gz + 2) 25 zB from K3w9.out).far (p := ⟨go, 2, none⟩) (by show gz + 2 ≠ go; have := HZ6.out; omega) _
    have HB10 := Lib.hid (HB9.out.grown hg10 HB9.out.size (fun q hq => by have e' : go = q := Option.some.inj hq; have := HZ6.out; have := HGZ.out; omega))
    clear hg10 k0 k1 k2 o2 of2 v2 p2 pf2 hbf
    generalize World.setCell w9 _ _ = w10 at *
    have o0 := (show Blk w10 go 25 (batV ep b A8 (n + m) c8) from KO10.out).cell 0
    have o1 := (show Blk w10 go 25 (batV ep b A8 (n + m) c8) from KO10.out).cell 1
    have o2 := (show Blk w10 go 25 (batV ep b A8 (n + m) c8) from KO10.out).cell 2
    have hbr := bright_any (ep := ep) (b := b) (TB.sl HT10.out) (fun k hk => hk) hnm (by rw [tot_app]; have := HT.out; have := HT2.out; omega) HHE.out HHB.out
    rw [HQ4.out] at hbr
    have HBR4 := Lib.hid hbr
    clear hbr
    go_wp2_with fail
    refine HBR4.out.mono ?_; rintro e w11 ⟨rfl, hb11⟩
    have HB11 := Lib.hid (stepB HB10.out hb11)
    have K3w11 := Lib.hid (keepB (show Blk w10 (gz + 2) 25 zB from K3w10.out) hb11)
    have KO11 := Lib.hid (keepB (show Blk w10 go 25 (batV ep b A8 (n + m) c8) from KO10.out) hb11)
    have HT11 := Lib.hid (TB.below HT10.out hb11)
    clear hb11 o0 o1 o2
    have HDT : Hid (dec (endN b es.length = b2 ∧ ep = ep2) = true) := dec_true ⟨by rw [HN.out, ← HEE.out]; exact HEQ.out, HEQ2.out⟩
    cases q4
    case false =>
      have HNO : Hid (joinC ep b es ep2 b2 es2 = 2) := by show _ = _; unfold joinC; rw [HQ1.out, HQ2.out, HDT.out, HQ4.out]; rfl
      go_wp2_with (refine wpList_put_row rfl 25 (.tmp 4) (.tmp 43) rfl (gz + 2) zB rfl rfl 25 _ K3w11.out HSZ.out rfl (by simp [Value.oneCell']) ?_; intro w6 hblk hgr)
      try rw [Exit.noGoto_ret]
      have x0 := (show Blk w6 (gz + 2) 25 zB from hblk).cell 0
      have x1 := (show Blk w6 (gz + 2) 25 zB from hblk).cell 1
      have x2 := (show Blk w6 (gz + 2) 25 zB from hblk).cell 2
      refine bodyPost_ret (v := .tuple #[.agg zB, .int .i64 2]) (by simp [results, Try.results9, go_sem, x0, x1, x2]) rfl (BADF.out _ HB11.out _ _ hgr HNO.out (by decide))
    case true =>
      have HYES : Hid (joinC ep b es ep2 b2 es2 = 0) := by show _ = _; unfold joinC; rw [HQ1.out, HQ2.out, HDT.out, HQ4.out]; rfl
      have o0 := (show Blk w11 go 25 (batV ep b A8 (n + m) c8) from KO11.out).cell 0
      have o1 := (show Blk w11 go 25 (batV ep b A8 (n + m) c8) from KO11.out).cell 1
      have o2 := (show Blk w11 go 25 (batV ep b A8 (n + m) c8) from KO11.out).cell 2
      go_wp2_with (refine wpList_put_row rfl 25 (.tmp 4) (.tmp 44) rfl (gz + 2) (batV ep b A8 (n + m) c8) rfl rfl 25 _ K3w11.out HSZ.out rfl (by simp [Value.oneCell']) ?_; intro w12 hblk hgr)
      try rw [Exit.noGoto_ret]
      have x0 := (show Blk w12 (gz + 2) 25 (batV ep b A8 (n + m) c8) from hblk).cell 0
      have x1 := (show Blk w12 (gz + 2) 25 (batV ep b A8 (n + m) c8) from hblk).cell 1
      have x2 := (show Blk w12 (gz + 2) 25 (batV ep b A8 (n + m) c8) from hblk).cell 2
      refine bodyPost_ret (v := .tuple #[.agg (batV ep b A8 (n + m) c8), .int .i64 0]) (by simp [results, Try.results9, go_sem, x0, x1, x2]) rfl ⟨HB11.out.grown hgr HB11.out.size (fun q hq => by have e' : gz + 2 = q := Option.some.inj hq; have := HGZ.out; omega), .inl ⟨HYES.out, A8, c8, ?_, ?_⟩⟩
      · rw [HN.out, HM.out]
      · have h := TB.sl (TB.turned HT11.out K3w11.out (by unfold TD; decide) (fun h => h) (.inl ⟨by decide, by decide⟩) hgr)
        rw [HN.out, HM.out]
        exact h
end
end Go.Proofs.Ytcbmnfjbmkpfiaa
