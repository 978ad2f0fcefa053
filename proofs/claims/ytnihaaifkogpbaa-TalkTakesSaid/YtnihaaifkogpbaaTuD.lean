/- A unit's answer to a Take. -/
import Derived.Test.YtnihaaifkogpbaaTuT
import Derived.Test.YtnihaaifkogpbaaTuC
import Derived.Test.YtnihaaifkogpbaaTkB
namespace Go.Proofs.Ytnihaaifkogpbaa
open Go.ChangeShapes Go.WideShapes Go.ChangeAt Go.RowKit
set_option linter.unusedVariables false
theorem MsIn.chg {w w' : World} {D F : Dom} {m : Ms} {h : Hd} (hm : MsIn w D m h) (hc : Chg F w w') (hF : ∀ k, D k → ¬ F k) : MsIn w' D m h :=
  ⟨(chS (show Sl rpU64 w D _ _ _ _ from ⟨hm.ss, hm.dom⟩) hc hF).1, (chS (show Sl rpLnk w D _ _ _ _ from ⟨hm.ls, hm.dom⟩) hc hF).1, (chS (show Sl rpU8 w D _ _ _ _ from ⟨hm.dt, hm.dom⟩) hc hF).1, (chS (show Sl rpStp w D _ _ _ _ from ⟨hm.pr, hm.dom⟩) hc hF).1, fun k hk => Nat.lt_of_lt_of_le (hm.dom k hk) hc.size, hm.kd0, hm.kd1, hm.ct0, hm.ct1, hm.st0, hm.st1, hm.ep1, hm.sq1, hm.ps1, hm.s11, hm.s21, hm.s31, hm.pe1⟩
section
variable {D : Dom} {A At : Option Addr} {nt ct gu ga nd ep tl nx tb M : Nat} {gm pj : Value} {T : List Lnk} {q a : Ms} {h hd : Hd} {w : World}
set_option maxRecDepth 100000 in
theorem admit0_any (w : World) (he : EOk ep) : Calls Try.prog 30 #[.int .u64 (ep : Int), .bool false, .int .u64 (ep : Int)] w fun e w' => e = .returned (.int .i64 0) ∧ w = w' := by
  have hep : ep ≤ 18446744073709551615 := by have := he.2; omega
  have HER : Hid (∀ u, Calls Try.prog 15 #[.int .u64 (ep : Int)] u fun e w' => e = .returned (.bool true) ∧ u = w') := fun u => by
    have h := eright_any ep u hep
    rw [dec_true he] at h
    exact h
  go_enter Try.func30, Try.ntmps30
  go_wp2_with (go_at_call 15; refine (HER.out _).mono ?_; rintro e w' ⟨rfl, hw⟩; subst hw)
  go_ret
  exact ⟨rfl, rfl⟩
set_option maxRecDepth 100000 in
set_option maxHeartbeats 8000000 in
theorem doesTake_any (hu : Blk w gu 60 (unV nd ep false gm tl pj nx At nt ct)) (ho : OLk w tb At nt ct T) (hT : TkOk M T) (hM : M ≤ 80000) (htb : tb ≤ w.heap.size) (hga : Blk w ga 40 (msV a hd)) (h2 : hd.A2 = none ∧ hd.n2 = 0 ∧ hd.c2 = 0)
    (hq : MsIn w D q h) (hDg : ∀ k, D k → ¬ (k = gu ∨ k = ga)) (hn16 : q.ss.length ≤ 16) (hc1 : 1 ≤ q.ct) (hc2 : q.ct ≤ 65536) (hnx : (nx : Int) + q.ct ≤ 4611686018427387904) (hkd : q.kd = 6) (hqe : q.ep = ep) (he : EOk ep) :
    Calls Try.prog 18 #[.pointer (some ⟨gu, 0, none⟩), .agg (msV q h), .pointer (some ⟨ga, 0, none⟩)] w fun e w' => e = .returned (.int .i64 0) ∧
      (∃ At' nt' ct', Blk w' gu 60 (unV nd ep false gm tl pj (nx + q.ct.toNat) At' nt' ct') ∧ OLk w' tb At' nt' ct' (tkK (nx + q.ct.toNat - min q.ct.toNat 4) T q.ss (min q.ct.toNat 4))) ∧
      (∃ Al nl cl, Blk w' ga 40 (msV { a with kd := 12, ps := nx } { hd with A2 := Al, n2 := nl, c2 := cl }) ∧ OLk w' tb Al nl cl (q.ss.map fun s => (s, bk T s))) ∧ Chg (fun k => k = gu ∨ k = ga) w w' := by
  have hb1 := below1 w (.cells (msV q h) 40)
  have HB1 := Lib.hid hb1
  have K1 := Lib.hid (blk11 w 40 (msV q h))
  have U1 := Lib.hid (keepB hu hb1)
  have A1 := Lib.hid (keepB hga hb1)
  have O1 := Lib.hid (OL.below ho hb1)
  have Q1 := Lib.hid (hq.below hb1)
  have HTK := Lib.hid hT
  have HTB := Lib.hid htb
  have HDG := Lib.hid hDg
  have HUL := Lib.hid hu.lt
  have HAL := Lib.hid hga.lt
  have HNE : Hid (gu ≠ ga) := fun e => by subst e; exact absurd (blk_type hu hga) (by decide)
  have HEP := Lib.hid he
  have HH2 := Lib.hid h2
  have HC1 := Lib.hid hc1
  have HC2 := Lib.hid hc2
  have HNX := Lib.hid hnx
  have HKD := Lib.hid hkd
  have HQE := Lib.hid hqe
  have H16 := Lib.hid hn16
  clear hu ho hT htb hga hq hDg hb1 he h2 hc1 hc2 hnx hkd hqe hn16
  go_enter Try.func18, Try.ntmps18
  go_upto_region 1 with (fail)
  obtain ⟨gq, hgq⟩ : ∃ gq, gq = w.heap.size := ⟨_, rfl⟩
  rw [← hgq] at K1 ⊢
  have HGQ := Lib.hid hgq
  clear hgq
  generalize World.alloc w _ = w1 at *
  have a0 := (show Blk w1 ga 40 (msV a hd) from A1.out).cell 0
  have af0 := (show Blk w1 ga 40 (msV a hd) from A1.out).frozen 0
  have c12 : Chg (fun k => k = ga) w1 (w1.setCell ⟨ga, 0, none⟩ (.int .i64 10)) := (Chg.refl (fun k => k = ga) w1).setCell (p := ⟨ga, 0, none⟩) (.inl rfl) _
  have A2 : Hid (Blk (w1.setCell ⟨ga, 0, none⟩ (.int .i64 10)) ga 40 (msV { a with kd := 10 } hd)) := (show Blk w1 ga 40 (msV a hd) from A1.out).put 0 _
  have K2 := Lib.hid (chB (show Blk w1 gq 40 (msV q h) from K1.out) c12 (by have := HGQ.out; have := HAL.out; show ¬ gq = ga; omega))
  have U2 := Lib.hid (chB (show Blk w1 gu 60 (unV nd ep false gm tl pj nx At nt ct) from U1.out) c12 HNE.out)
  have O2 := Lib.hid (OL.chg O1.out c12 (fun k hk _ => ⟨fun h => h, fun cs' t' h' => by
    subst hk
    obtain rfl := blk_type A1.out h'
    exact ⟨by unfold T64; decide, by decide⟩⟩))
  have Q2 : Hid (MsIn (w1.setCell ⟨ga, 0, none⟩ (.int .i64 10)) D q h) := MsIn.chg Q1.out c12 (fun k hk e => HDG.out k hk (.inr e))
  have C2 := Lib.hid (show Chg (fun k => k = gu ∨ k = ga) w _ from (Chg.of_pure HB1.out _).trans (c12.more (fun k _ hk => .inr hk)))
  clear c12
  go_upto_region 2 with (fail)
  clear a0 af0 K1 U1 A1 O1 Q1
  generalize World.setCell w1 _ _ = w2 at *
  have q0 : w2.cell? ⟨gq, 0, none⟩ = some (.int .i64 6) := by
    have hh := (show Blk w2 gq 40 (msV q h) from K2.out).cell 0
    rw [← HKD.out]; exact hh
  go_upto_region 9 with (fail)
  have HAD := Lib.hid (fun u : World => admit0_any (ep := ep) u HEP.out)
  have u1 : ∀ u : Gr w2.heap.size w2, u.val.cell? ⟨gu, 1, none⟩ = some (.int .u64 (ep : Int)) := fun u => (keepB (show Blk w2 gu 60 (unV nd ep false gm tl pj nx At nt ct) from U2.out) u.is).cell 1
  have u2 : ∀ u : Gr w2.heap.size w2, u.val.cell? ⟨gu, 2, none⟩ = some (.bool false) := fun u => (keepB (show Blk w2 gu 60 (unV nd ep false gm tl pj nx At nt ct) from U2.out) u.is).cell 2
  have q1 : ∀ u : Gr w2.heap.size w2, u.val.cell? ⟨gq, 1, none⟩ = some (.int .u64 (ep : Int)) := fun u => by
    have hh := (keepB (show Blk w2 gq 40 (msV q h) from K2.out) u.is).cell 1
    rw [← HQE.out]; exact hh
  refine wp_region_grow (by kernel_rfl) (by kernel_rfl) w2.heap.size ?_
  repeat (first | go_big_quiet_step ((go_at_call 30; exact Gr.same _ (HAD.out _))) | quiet_step ((go_at_call 30; exact Gr.same _ (HAD.out _))))
  refine wpQuiet_nil ?_
  rintro w3 ⟨⟨_, hb3⟩, rfl⟩
  have K3 := Lib.hid (keepB (show Blk w2 gq 40 (msV q h) from K2.out) hb3)
  have U3 := Lib.hid (keepB (show Blk w2 gu 60 (unV nd ep false gm tl pj nx At nt ct) from U2.out) hb3)
  have A3 := Lib.hid (keepB (show Blk w2 ga 40 (msV { a with kd := 10 } hd) from A2.out) hb3)
  have O3 := Lib.hid (OL.below O2.out hb3)
  have Q3 := Lib.hid (Q2.out.below hb3)
  have C3 := Lib.hid (C2.out.trans (Chg.of_pure hb3 _))
  clear u1 u2 q1 hb3 K2 U2 A2 O2 Q2 C2 q0
  have q0 : w3.cell? ⟨gq, 0, none⟩ = some (.int .i64 6) := by
    have hh := (show Blk w3 gq 40 (msV q h) from K3.out).cell 0
    rw [← HKD.out]; exact hh
  have HTA := Lib.hid (take_any U3.out O3.out HTK.out hM (Nat.le_trans HTB.out C3.out.size) A3.out HH2.out Q3.out HDG.out H16.out HC1.out HC2.out HNX.out)
  go_upto_region 21 with (fail)
  clear q0
  have q0 := (show Blk w3 gq 40 (msV q h) from K3.out).cell 0
  have q1 := (show Blk w3 gq 40 (msV q h) from K3.out).cell 1
  have q2 := (show Blk w3 gq 40 (msV q h) from K3.out).cell 2
  have q3 := (show Blk w3 gq 40 (msV q h) from K3.out).cell 3
  have q4 := (show Blk w3 gq 40 (msV q h) from K3.out).cell 4
  have q5 := (show Blk w3 gq 40 (msV q h) from K3.out).cell 5
  have q6 := (show Blk w3 gq 40 (msV q h) from K3.out).cell 6
  have q7 := (show Blk w3 gq 40 (msV q h) from K3.out).cell 7
  have q8 := (show Blk w3 gq 40 (msV q h) from K3.out).cell 8
  have q9 := (show Blk w3 gq 40 (msV q h) from K3.out).cell 9
  have q10 := (show Blk w3 gq 40 (msV q h) from K3.out).cell 10
  have q11 := (show Blk w3 gq 40 (msV q h) from K3.out).cell 11
  have q12 := (show Blk w3 gq 40 (msV q h) from K3.out).cell 12
  have q13 := (show Blk w3 gq 40 (msV q h) from K3.out).cell 13
  go_wp2_with fail
  refine HTA.out.mono ?_; rintro e w4 ⟨rfl, h4u, h4a, h4c⟩
  have HU := Lib.hid h4u
  have HA := Lib.hid h4a
  have HC := Lib.hid (C3.out.trans h4c)
  clear h4u h4a h4c q0 q1 q2 q3 q4 q5 q6 q7 q8 q9 q10 q11 q12 q13
  go_wp2_with fail
  go_ret
  exact ⟨rfl, HU.out, HA.out, HC.out⟩
end
end Go.Proofs.Ytnihaaifkogpbaa
