/-
  The law of this claim, a further part of its proof (2): the parts ToDf, ToDg, ToDh, ToDw, TkN, TkO, TkW, TkA, TkH, TkQ.
-/
import Derived.Test.YtnihaaifkogpbaaTkM
import Derived.Test.YtnihaaifkogpbaaTkMp
import Derived.Test.YtnihaaifkogpbaaCore
import Derived.Deep.DeepCutAuto
import Derived.Deep.CutBlock
import Derived.BigQuiet
import Derived.RegionTactic
import Derived.StillTailTactics
import Derived.Test.YtnihaaifkogpbaaTkR
import Derived.IntWalk
import Derived.Test.YtnihaaifkogpbaaU64
import Derived.Test.YtnihaaifkogpbaaQTO1
/- (*talk.Unit).does, kind Fill (printed by gendoes.py). -/
namespace Go.Proofs.Ytnihaaifkogpbaa
open Go.ChangeShapes Go.WideShapes Go.ChangeAt Go.RowKit
set_option linter.unusedVariables false
section
variable {w : World} {gu gm ga tb nd M ep tl nx nt ct : Nat} {se : Bool} {f : Nat → Option Value} {pj : Value} {At : Option Addr} {T : List Lnk} {D : Dom} {q : Ms} {h : Hd} {d : List UInt8}
set_option maxRecDepth 100000 in
set_option maxHeartbeats 8000000 in
theorem does5_any (hs : DS w gu gm ga tb nd M ep se f tl pj nx At nt ct T D q h (ansY q) hdZb d) (he : EOk ep) (hM : M ≤ 1000) (hok : MOk q) (hkd : q.kd = 5) :
    Calls Try.prog 18 #[.pointer (some ⟨gu, 0, none⟩), .agg (msV q h), .pointer (some ⟨ga, 0, none⟩)] w (DoesIs w gu gm ga tb nd M ep se f q d) := by
  have hps : q.ps < 4611686018427387904 := by
    have h1 := hok.1.2.1
    unfold part at h1
    rw [hkd, if_pos (by decide +kernel : Kd.has 5 1 = true)] at h1
    exact h1
  have hb1 := below1 w (.cells (msV q h) 40)
  have HB1 := Lib.hid hb1
  have K1 := Lib.hid (blk11 w 40 (msV q h))
  have S1 := Lib.hid (hs.below hb1)
  have HAL := Lib.hid hs.a.lt
  have HUL := Lib.hid hs.u.lt
  have HKD := Lib.hid hkd
  have HOK := Lib.hid hok
  have HEP := Lib.hid he
  clear hs hb1 hkd hok he
  go_enter Try.func18, Try.ntmps18
  go_upto_region 1 with (fail)
  obtain ⟨gq, hgq⟩ : ∃ gq, gq = w.heap.size := ⟨_, rfl⟩
  rw [← hgq] at K1 ⊢
  have HGQ := Lib.hid hgq
  clear hgq
  generalize World.alloc w _ = w1 at *
  have a0 := S1.out.a.cell 0
  have af0 := S1.out.a.frozen 0
  have c12 : Chg (fun k => k = ga) w1 (w1.setCell ⟨ga, 0, none⟩ (.int .i64 10)) := (Chg.refl (fun k => k = ga) w1).setCell (p := ⟨ga, 0, none⟩) (.inl rfl) _
  have S2 : Hid (DS (w1.setCell ⟨ga, 0, none⟩ (.int .i64 10)) gu gm ga tb nd M ep se f tl pj nx At nt ct T D q h { ansY q with kd := 10 } hdZb d) := S1.out.ans c12 (S1.out.a.put 0 _)
  have K2 := Lib.hid (chB (show Blk w1 gq 40 (msV q h) from K1.out) c12 (by have := HGQ.out; have := HAL.out; show ¬ gq = ga; omega))
  have C2 := Lib.hid (show Chg (fun k => k = gu ∨ k = gm ∨ k = ga) w _ from (Chg.of_pure HB1.out _).trans (c12.more (fun k _ hk => .inr (.inr hk))))
  clear c12
  go_upto_region 2 with (fail)
  clear a0 af0 K1 S1
  generalize World.setCell w1 _ _ = w2 at *
  have q0 : w2.cell? ⟨gq, 0, none⟩ = some (.int .i64 5) := by
    have hh := (show Blk w2 gq 40 (msV q h) from K2.out).cell 0
    rw [← HKD.out]; exact hh
  go_upto_region 9 with (fail)
  obtain ⟨z, hz⟩ : ∃ z, z = admC ep se q.ep := ⟨_, rfl⟩
  have HZ := Lib.hid hz
  have HAD : Hid (∀ u : World, Calls Try.prog 30 #[.int .u64 (ep : Int), .bool se, .int .u64 (q.ep : Int)] u fun r w' => r = .returned (.int .i64 z) ∧ u = w') := fun u => by
    rw [HZ.out]
    exact admit_any se u HEP.out HOK.out.2
  clear hz
  have u1 : ∀ u : Gr w2.heap.size w2, u.val.cell? ⟨gu, 1, none⟩ = some (.int .u64 (ep : Int)) := fun u => (keepB S2.out.u u.is).cell 1
  have u2 : ∀ u : Gr w2.heap.size w2, u.val.cell? ⟨gu, 2, none⟩ = some (.bool se) := fun u => (keepB S2.out.u u.is).cell 2
  have q1 : ∀ u : Gr w2.heap.size w2, u.val.cell? ⟨gq, 1, none⟩ = some (.int .u64 (q.ep : Int)) := fun u => (keepB (show Blk w2 gq 40 (msV q h) from K2.out) u.is).cell 1
  refine wp_region_grow (by kernel_rfl) (by kernel_rfl) w2.heap.size ?_
  repeat (first | go_big_quiet_step ((go_at_call 30; exact Gr.same _ (HAD.out _))) | quiet_step ((go_at_call 30; exact Gr.same _ (HAD.out _))))
  refine wpQuiet_nil ?_
  rintro w3 ⟨⟨_, hb3⟩, rfl⟩
  have K3 := Lib.hid (keepB (show Blk w2 gq 40 (msV q h) from K2.out) hb3)
  have S3 := Lib.hid (S2.out.below hb3)
  have C3 := Lib.hid (C2.out.trans (Chg.of_pure hb3 _))
  clear u1 u2 q1 hb3 K2 S2 C2 q0
  by_cases hz : z = 0
  case neg =>
    have hz1 : (z != 0) = true := by simpa using hz
    have HZN := Lib.hid hz
    clear hz
    go_wp2_with fail
    go_ret
    exact ⟨z, ansY q, hdZb, ep, se, f, rfl, (by rw [HZ.out]; exact adm_bd _ _ _), fun e => absurd e HZN.out, S3.out.ui HEP.out, C3.out, DR.adm HZN.out HZ.out⟩
  case pos =>
  subst hz
  have q0 : w3.cell? ⟨gq, 0, none⟩ = some (.int .i64 5) := by
    have hh := (show Blk w3 gq 40 (msV q h) from K3.out).cell 0
    rw [← HKD.out]; exact hh
  go_upto_region 18 with (fail)
  clear q0
  have q0 := (show Blk w3 gq 40 (msV q h) from K3.out).cell 0
  have q1 := (show Blk w3 gq 40 (msV q h) from K3.out).cell 1
  have q2 := (show Blk w3 gq 40 (msV q h) from K3.out).cell 2
  have q3 := (show Blk w3 gq 40 (msV q h) from K3.out).cell 3
  have q4 := (show Blk w3 gq 40 (msV q h) from K3.out).cell 4
  have q5 := (show Blk w3 gq 40 (msV q h) from K3.out).cell 5
  have q6 := (show Blk w3 gq 40 (msV q h) from K3.out).cell 6
  have q7 := (show Blk w3 gq 40 (msV q h) from K3.out).cell 7
  have q8 := (show Blk w3 gq 40 (msV q h) from K3.out).cell 8
  have q9 := (show Blk w3 gq 40 (msV q h) from K3.out).cell 9
  have q10 := (show Blk w3 gq 40 (msV q h) from K3.out).cell 10
  have q11 := (show Blk w3 gq 40 (msV q h) from K3.out).cell 11
  have q12 := (show Blk w3 gq 40 (msV q h) from K3.out).cell 12
  have q13 := (show Blk w3 gq 40 (msV q h) from K3.out).cell 13
  obtain ⟨st, hst, hsc⟩ := S3.out.r.so.stat q.ps
  have HSC := Lib.hid hsc
  have hb4 := below1 w3 (.cells #[.int .i64 4, .int .i64 2] 3)
  have S4 := Lib.hid (S3.out.below hb4)
  have C4 := Lib.hid (C3.out.trans (Chg.of_pure hb4 _))
  have HSE := Lib.hid (change_any (L := [4, 2]) (gf := w3.heap.size) (cf := 2) (stN := 2) (A := none) (m := 0) (c := 0) (h := h) S4.out.u S4.out.r.mp hps hst (show M < maxLen by unfold maxLen; omega) (show Blk _ w3.heap.size 3 #[.int .i64 4, .int .i64 2] from blk11 w3 3 #[.int .i64 4, .int .i64 2]) (by decide))
  clear hst hsc hb4
  go_wp2_with fail
  refine HSE.out.mono ?_; rintro e w5 hp
  rcases hp with ⟨rfl, hin, hu, hm, hc⟩ | ⟨rfl, hin, hb⟩
  · have hc2 : Chg (fun k => k = gu ∨ k = gm ∨ k = ga) _ w5 := hc.more (fun k _ hk => by rcases hk with hk | hk; exact .inl hk; exact .inr (.inl hk))
    have C5 := Lib.hid (C4.out.trans hc2)
    have R5 := Lib.hid (S4.out.r.put (S4.out.safe.sub (fun k hk => by rcases hk with hk | hk; exact .inl hk; exact .inr (.inl hk))) hc hm ⟨2, none, 0, 0, [], rfl, by decide, by decide, by decide, Rp.sl_nil _ _ _ _ _ (Nat.zero_le _)⟩ hps)
    have A5 := Lib.hid (chB S4.out.a hc (fun e => by rcases e with e | e; exact S4.out.une e.symm; exact S4.out.anm e))
    have U5 := Lib.hid hu
    have HIN := Lib.hid hin
    clear hc hc2 hu hm hin q0 q1 q2 q3 q4 q5 q6 q7 q8 q9 q10 q11 q12 q13
    go_wp2_with fail
    go_ret
    refine ⟨0, _, hdZb, ep, se, fset f q.ps (slV 2 none 0 0), rfl, ⟨by decide, by decide⟩, fun _ => ⟨A5.out, CpOk.plain _ _ _ _ _ _ _ _⟩, ⟨HEP.out, _, pj, nx, At, nt, ct, T, U5.out, R5.out⟩, C5.out, ?_⟩
    exact DR.fill HKD.out HSC.out (by have h1 := HIN.out; simpa using h1)
  · have S5 := Lib.hid (S4.out.below hb)
    have C5 := Lib.hid (C4.out.trans (Chg.of_pure hb _))
    have HIN := Lib.hid hin
    clear hb hin q0 q1 q2 q3 q4 q5 q6 q7 q8 q9 q10 q11 q12 q13
    go_wp2_with fail
    go_ret
    exact ⟨18, ansY q, hdZb, ep, se, f, rfl, ⟨by decide, by decide⟩, fun e => absurd e (by decide), S5.out.ui HEP.out, C5.out, DR.stay (fun _ => by decide) (fun _ => by decide) (fun e => by rw [HKD.out] at e; cases e) (fun e => by rw [HKD.out] at e; cases e)⟩
end
end Go.Proofs.Ytnihaaifkogpbaa
/- (*talk.Unit).does, kind Trim (printed by gendoes.py). -/
namespace Go.Proofs.Ytnihaaifkogpbaa
open Go.ChangeShapes Go.WideShapes Go.ChangeAt Go.RowKit
set_option linter.unusedVariables false
section
variable {w : World} {gu gm ga tb nd M ep tl nx nt ct : Nat} {se : Bool} {f : Nat → Option Value} {pj : Value} {At : Option Addr} {T : List Lnk} {D : Dom} {q : Ms} {h : Hd} {d : List UInt8}
set_option maxRecDepth 100000 in
set_option maxHeartbeats 8000000 in
theorem does4_any (hs : DS w gu gm ga tb nd M ep se f tl pj nx At nt ct T D q h (ansY q) hdZb d) (he : EOk ep) (hM : M ≤ 1000) (hok : MOk q) (hkd : q.kd = 4) :
    Calls Try.prog 18 #[.pointer (some ⟨gu, 0, none⟩), .agg (msV q h), .pointer (some ⟨ga, 0, none⟩)] w (DoesIs w gu gm ga tb nd M ep se f q d) := by
  have hps : q.ps < 4611686018427387904 := by
    have h1 := hok.1.2.1
    unfold part at h1
    rw [hkd, if_pos (by decide +kernel : Kd.has 4 1 = true)] at h1
    exact h1
  have hb1 := below1 w (.cells (msV q h) 40)
  have HB1 := Lib.hid hb1
  have K1 := Lib.hid (blk11 w 40 (msV q h))
  have S1 := Lib.hid (hs.below hb1)
  have HAL := Lib.hid hs.a.lt
  have HUL := Lib.hid hs.u.lt
  have HKD := Lib.hid hkd
  have HOK := Lib.hid hok
  have HEP := Lib.hid he
  clear hs hb1 hkd hok he
  go_enter Try.func18, Try.ntmps18
  go_upto_region 1 with (fail)
  obtain ⟨gq, hgq⟩ : ∃ gq, gq = w.heap.size := ⟨_, rfl⟩
  rw [← hgq] at K1 ⊢
  have HGQ := Lib.hid hgq
  clear hgq
  generalize World.alloc w _ = w1 at *
  have a0 := S1.out.a.cell 0
  have af0 := S1.out.a.frozen 0
  have c12 : Chg (fun k => k = ga) w1 (w1.setCell ⟨ga, 0, none⟩ (.int .i64 10)) := (Chg.refl (fun k => k = ga) w1).setCell (p := ⟨ga, 0, none⟩) (.inl rfl) _
  have S2 : Hid (DS (w1.setCell ⟨ga, 0, none⟩ (.int .i64 10)) gu gm ga tb nd M ep se f tl pj nx At nt ct T D q h { ansY q with kd := 10 } hdZb d) := S1.out.ans c12 (S1.out.a.put 0 _)
  have K2 := Lib.hid (chB (show Blk w1 gq 40 (msV q h) from K1.out) c12 (by have := HGQ.out; have := HAL.out; show ¬ gq = ga; omega))
  have C2 := Lib.hid (show Chg (fun k => k = gu ∨ k = gm ∨ k = ga) w _ from (Chg.of_pure HB1.out _).trans (c12.more (fun k _ hk => .inr (.inr hk))))
  clear c12
  go_upto_region 2 with (fail)
  clear a0 af0 K1 S1
  generalize World.setCell w1 _ _ = w2 at *
  have q0 : w2.cell? ⟨gq, 0, none⟩ = some (.int .i64 4) := by
    have hh := (show Blk w2 gq 40 (msV q h) from K2.out).cell 0
    rw [← HKD.out]; exact hh
  go_upto_region 9 with (fail)
  obtain ⟨z, hz⟩ : ∃ z, z = admC ep se q.ep := ⟨_, rfl⟩
  have HZ := Lib.hid hz
  have HAD : Hid (∀ u : World, Calls Try.prog 30 #[.int .u64 (ep : Int), .bool se, .int .u64 (q.ep : Int)] u fun r w' => r = .returned (.int .i64 z) ∧ u = w') := fun u => by
    rw [HZ.out]
    exact admit_any se u HEP.out HOK.out.2
  clear hz
  have u1 : ∀ u : Gr w2.heap.size w2, u.val.cell? ⟨gu, 1, none⟩ = some (.int .u64 (ep : Int)) := fun u => (keepB S2.out.u u.is).cell 1
  have u2 : ∀ u : Gr w2.heap.size w2, u.val.cell? ⟨gu, 2, none⟩ = some (.bool se) := fun u => (keepB S2.out.u u.is).cell 2
  have q1 : ∀ u : Gr w2.heap.size w2, u.val.cell? ⟨gq, 1, none⟩ = some (.int .u64 (q.ep : Int)) := fun u => (keepB (show Blk w2 gq 40 (msV q h) from K2.out) u.is).cell 1
  refine wp_region_grow (by kernel_rfl) (by kernel_rfl) w2.heap.size ?_
  repeat (first | go_big_quiet_step ((go_at_call 30; exact Gr.same _ (HAD.out _))) | quiet_step ((go_at_call 30; exact Gr.same _ (HAD.out _))))
  refine wpQuiet_nil ?_
  rintro w3 ⟨⟨_, hb3⟩, rfl⟩
  have K3 := Lib.hid (keepB (show Blk w2 gq 40 (msV q h) from K2.out) hb3)
  have S3 := Lib.hid (S2.out.below hb3)
  have C3 := Lib.hid (C2.out.trans (Chg.of_pure hb3 _))
  clear u1 u2 q1 hb3 K2 S2 C2 q0
  by_cases hz : z = 0
  case neg =>
    have hz1 : (z != 0) = true := by simpa using hz
    have HZN := Lib.hid hz
    clear hz
    go_wp2_with fail
    go_ret
    exact ⟨z, ansY q, hdZb, ep, se, f, rfl, (by rw [HZ.out]; exact adm_bd _ _ _), fun e => absurd e HZN.out, S3.out.ui HEP.out, C3.out, DR.adm HZN.out HZ.out⟩
  case pos =>
  subst hz
  have q0 : w3.cell? ⟨gq, 0, none⟩ = some (.int .i64 4) := by
    have hh := (show Blk w3 gq 40 (msV q h) from K3.out).cell 0
    rw [← HKD.out]; exact hh
  go_upto_region 20 with (fail)
  clear q0
  have q0 := (show Blk w3 gq 40 (msV q h) from K3.out).cell 0
  have q1 := (show Blk w3 gq 40 (msV q h) from K3.out).cell 1
  have q2 := (show Blk w3 gq 40 (msV q h) from K3.out).cell 2
  have q3 := (show Blk w3 gq 40 (msV q h) from K3.out).cell 3
  have q4 := (show Blk w3 gq 40 (msV q h) from K3.out).cell 4
  have q5 := (show Blk w3 gq 40 (msV q h) from K3.out).cell 5
  have q6 := (show Blk w3 gq 40 (msV q h) from K3.out).cell 6
  have q7 := (show Blk w3 gq 40 (msV q h) from K3.out).cell 7
  have q8 := (show Blk w3 gq 40 (msV q h) from K3.out).cell 8
  have q9 := (show Blk w3 gq 40 (msV q h) from K3.out).cell 9
  have q10 := (show Blk w3 gq 40 (msV q h) from K3.out).cell 10
  have q11 := (show Blk w3 gq 40 (msV q h) from K3.out).cell 11
  have q12 := (show Blk w3 gq 40 (msV q h) from K3.out).cell 12
  have q13 := (show Blk w3 gq 40 (msV q h) from K3.out).cell 13
  obtain ⟨st, hst, hsc⟩ := S3.out.r.so.stat q.ps
  have HSC := Lib.hid hsc
  have hb4 := below1 w3 (.cells #[.int .i64 1, .int .i64 2, .int .i64 3, .int .i64 4] 3)
  have S4 := Lib.hid (S3.out.below hb4)
  have C4 := Lib.hid (C3.out.trans (Chg.of_pure hb4 _))
  have HSE := Lib.hid (change_any (L := [1, 2, 3, 4]) (gf := w3.heap.size) (cf := 4) (stN := 3) (A := none) (m := 0) (c := 0) (h := h) S4.out.u S4.out.r.mp hps hst (show M < maxLen by unfold maxLen; omega) (show Blk _ w3.heap.size 3 #[.int .i64 1, .int .i64 2, .int .i64 3, .int .i64 4] from blk11 w3 3 #[.int .i64 1, .int .i64 2, .int .i64 3, .int .i64 4]) (by decide))
  clear hst hsc hb4
  go_wp2_with fail
  refine HSE.out.mono ?_; rintro e w5 hp
  rcases hp with ⟨rfl, hin, hu, hm, hc⟩ | ⟨rfl, hin, hb⟩
  · have hc2 : Chg (fun k => k = gu ∨ k = gm ∨ k = ga) _ w5 := hc.more (fun k _ hk => by rcases hk with hk | hk; exact .inl hk; exact .inr (.inl hk))
    have C5 := Lib.hid (C4.out.trans hc2)
    have R5 := Lib.hid (S4.out.r.put (S4.out.safe.sub (fun k hk => by rcases hk with hk | hk; exact .inl hk; exact .inr (.inl hk))) hc hm ⟨3, none, 0, 0, [], rfl, by decide, by decide, by decide, Rp.sl_nil _ _ _ _ _ (Nat.zero_le _)⟩ hps)
    have A5 := Lib.hid (chB S4.out.a hc (fun e => by rcases e with e | e; exact S4.out.une e.symm; exact S4.out.anm e))
    have U5 := Lib.hid hu
    have HIN := Lib.hid hin
    clear hc hc2 hu hm hin q0 q1 q2 q3 q4 q5 q6 q7 q8 q9 q10 q11 q12 q13
    go_wp2_with fail
    go_ret
    refine ⟨0, _, hdZb, ep, se, fset f q.ps (slV 3 none 0 0), rfl, ⟨by decide, by decide⟩, fun _ => ⟨A5.out, CpOk.plain _ _ _ _ _ _ _ _⟩, ⟨HEP.out, _, pj, nx, At, nt, ct, T, U5.out, R5.out⟩, C5.out, ?_⟩
    exact DR.trim HKD.out rfl
  · have S5 := Lib.hid (S4.out.below hb)
    have C5 := Lib.hid (C4.out.trans (Chg.of_pure hb _))
    have HIN := Lib.hid hin
    clear hb hin q0 q1 q2 q3 q4 q5 q6 q7 q8 q9 q10 q11 q12 q13
    go_wp2_with fail
    go_ret
    exact ⟨18, ansY q, hdZb, ep, se, f, rfl, ⟨by decide, by decide⟩, fun e => absurd e (by decide), S5.out.ui HEP.out, C5.out, DR.stay (fun _ => by decide) (fun _ => by decide) (fun e => by rw [HKD.out] at e; cases e) (fun e => by rw [HKD.out] at e; cases e)⟩
end
end Go.Proofs.Ytnihaaifkogpbaa
/- (*talk.Unit).does, kind Take (printed by gendoes.py). -/
namespace Go.Proofs.Ytnihaaifkogpbaa
open Go.ChangeShapes Go.WideShapes Go.ChangeAt Go.RowKit
set_option linter.unusedVariables false
section
variable {w : World} {gu gm ga tb nd M ep tl nx nt ct : Nat} {se : Bool} {f : Nat → Option Value} {pj : Value} {At : Option Addr} {T : List Lnk} {D : Dom} {q : Ms} {h : Hd} {d : List UInt8}
set_option maxRecDepth 100000 in
set_option maxHeartbeats 8000000 in
theorem does6_any (hs : DS w gu gm ga tb nd M ep se f tl pj nx At nt ct T D q h (ansY q) hdZb d) (he : EOk ep) (hM : M ≤ 1000) (hok : MOk q) (hkd : q.kd = 6) :
    Calls Try.prog 18 #[.pointer (some ⟨gu, 0, none⟩), .agg (msV q h), .pointer (some ⟨ga, 0, none⟩)] w (DoesIs w gu gm ga tb nd M ep se f q d) := by
  have hss : q.ss.length ≤ 16 ∧ Rises q.ss := by
    have h1 := hok.1.2.2.2.2.1
    unfold part at h1
    rw [hkd, if_pos (by decide +kernel : Kd.has 6 8 = true)] at h1
    exact h1
  have hcc : 1 ≤ q.ct ∧ q.ct ≤ 65536 := by
    have h1 := hok.1.2.2.1
    unfold part at h1
    rw [hkd, if_pos (by decide +kernel : Kd.has 6 2 = true)] at h1
    exact h1
  have hb1 := below1 w (.cells (msV q h) 40)
  have HB1 := Lib.hid hb1
  have K1 := Lib.hid (blk11 w 40 (msV q h))
  have S1 := Lib.hid (hs.below hb1)
  have HAL := Lib.hid hs.a.lt
  have HUL := Lib.hid hs.u.lt
  have HKD := Lib.hid hkd
  have HOK := Lib.hid hok
  have HEP := Lib.hid he
  clear hs hb1 hkd hok he
  go_enter Try.func18, Try.ntmps18
  go_upto_region 1 with (fail)
  obtain ⟨gq, hgq⟩ : ∃ gq, gq = w.heap.size := ⟨_, rfl⟩
  rw [← hgq] at K1 ⊢
  have HGQ := Lib.hid hgq
  clear hgq
  generalize World.alloc w _ = w1 at *
  have a0 := S1.out.a.cell 0
  have af0 := S1.out.a.frozen 0
  have c12 : Chg (fun k => k = ga) w1 (w1.setCell ⟨ga, 0, none⟩ (.int .i64 10)) := (Chg.refl (fun k => k = ga) w1).setCell (p := ⟨ga, 0, none⟩) (.inl rfl) _
  have S2 : Hid (DS (w1.setCell ⟨ga, 0, none⟩ (.int .i64 10)) gu gm ga tb nd M ep se f tl pj nx At nt ct T D q h { ansY q with kd := 10 } hdZb d) := S1.out.ans c12 (S1.out.a.put 0 _)
  have K2 := Lib.hid (chB (show Blk w1 gq 40 (msV q h) from K1.out) c12 (by have := HGQ.out; have := HAL.out; show ¬ gq = ga; omega))
  have C2 := Lib.hid (show Chg (fun k => k = gu ∨ k = gm ∨ k = ga) w _ from (Chg.of_pure HB1.out _).trans (c12.more (fun k _ hk => .inr (.inr hk))))
  clear c12
  go_upto_region 2 with (fail)
  clear a0 af0 K1 S1
  generalize World.setCell w1 _ _ = w2 at *
  have q0 : w2.cell? ⟨gq, 0, none⟩ = some (.int .i64 6) := by
    have hh := (show Blk w2 gq 40 (msV q h) from K2.out).cell 0
    rw [← HKD.out]; exact hh
  go_upto_region 9 with (fail)
  obtain ⟨z, hz⟩ : ∃ z, z = admC ep se q.ep := ⟨_, rfl⟩
  have HZ := Lib.hid hz
  have HAD : Hid (∀ u : World, Calls Try.prog 30 #[.int .u64 (ep : Int), .bool se, .int .u64 (q.ep : Int)] u fun r w' => r = .returned (.int .i64 z) ∧ u = w') := fun u => by
    rw [HZ.out]
    exact admit_any se u HEP.out HOK.out.2
  clear hz
  have u1 : ∀ u : Gr w2.heap.size w2, u.val.cell? ⟨gu, 1, none⟩ = some (.int .u64 (ep : Int)) := fun u => (keepB S2.out.u u.is).cell 1
  have u2 : ∀ u : Gr w2.heap.size w2, u.val.cell? ⟨gu, 2, none⟩ = some (.bool se) := fun u => (keepB S2.out.u u.is).cell 2
  have q1 : ∀ u : Gr w2.heap.size w2, u.val.cell? ⟨gq, 1, none⟩ = some (.int .u64 (q.ep : Int)) := fun u => (keepB (show Blk w2 gq 40 (msV q h) from K2.out) u.is).cell 1
  refine wp_region_grow (by kernel_rfl) (by kernel_rfl) w2.heap.size ?_
  repeat (first | go_big_quiet_step ((go_at_call 30; exact Gr.same _ (HAD.out _))) | quiet_step ((go_at_call 30; exact Gr.same _ (HAD.out _))))
  refine wpQuiet_nil ?_
  rintro w3 ⟨⟨_, hb3⟩, rfl⟩
  have K3 := Lib.hid (keepB (show Blk w2 gq 40 (msV q h) from K2.out) hb3)
  have S3 := Lib.hid (S2.out.below hb3)
  have C3 := Lib.hid (C2.out.trans (Chg.of_pure hb3 _))
  clear u1 u2 q1 hb3 K2 S2 C2 q0
  by_cases hz : z = 0
  case neg =>
    have hz1 : (z != 0) = true := by simpa using hz
    have HZN := Lib.hid hz
    clear hz
    go_wp2_with fail
    go_ret
    exact ⟨z, ansY q, hdZb, ep, se, f, rfl, (by rw [HZ.out]; exact adm_bd _ _ _), fun e => absurd e HZN.out, S3.out.ui HEP.out, C3.out, DR.adm HZN.out HZ.out⟩
  case pos =>
  subst hz
  have q0 : w3.cell? ⟨gq, 0, none⟩ = some (.int .i64 6) := by
    have hh := (show Blk w3 gq 40 (msV q h) from K3.out).cell 0
    rw [← HKD.out]; exact hh
  go_upto_region 21 with (fail)
  clear q0
  have q0 := (show Blk w3 gq 40 (msV q h) from K3.out).cell 0
  have q1 := (show Blk w3 gq 40 (msV q h) from K3.out).cell 1
  have q2 := (show Blk w3 gq 40 (msV q h) from K3.out).cell 2
  have q3 := (show Blk w3 gq 40 (msV q h) from K3.out).cell 3
  have q4 := (show Blk w3 gq 40 (msV q h) from K3.out).cell 4
  have q5 := (show Blk w3 gq 40 (msV q h) from K3.out).cell 5
  have q6 := (show Blk w3 gq 40 (msV q h) from K3.out).cell 6
  have q7 := (show Blk w3 gq 40 (msV q h) from K3.out).cell 7
  have q8 := (show Blk w3 gq 40 (msV q h) from K3.out).cell 8
  have q9 := (show Blk w3 gq 40 (msV q h) from K3.out).cell 9
  have q10 := (show Blk w3 gq 40 (msV q h) from K3.out).cell 10
  have q11 := (show Blk w3 gq 40 (msV q h) from K3.out).cell 11
  have q12 := (show Blk w3 gq 40 (msV q h) from K3.out).cell 12
  have q13 := (show Blk w3 gq 40 (msV q h) from K3.out).cell 13
  have hr := S3.out.r
  have hnx := hr.nx1
  have HSE := Lib.hid (take_any (h := h) S3.out.u hr.o hr.tk (show M * 64 ≤ 80000 by omega) hr.tb1 S3.out.a ⟨rfl, rfl, rfl⟩ S3.out.m (fun k hk e => S3.out.dg k hk (by rcases e with e | e; exact .inl e; exact .inr (.inr e))) hss.1 hcc.1 hcc.2 (by omega))
  have HSS := Lib.hid hss
  have HCC := Lib.hid hcc
  clear hr hnx hss hcc
  go_wp2_with fail
  refine HSE.out.mono ?_; rintro e w4 ⟨rfl, ⟨At', nt', ct', hu, ho⟩, ⟨Al, nl, cl, ha, hl⟩, hc⟩
  have C4 := Lib.hid (C3.out.trans (hc.more (fun k _ hk => by rcases hk with hk | hk; exact .inl hk; exact .inr (.inr hk))))
  have R4 := Lib.hid (S3.out.r.chg (S3.out.safe.sub (fun k hk => by rcases hk with hk | hk; exact .inl hk; exact .inr (.inr hk))) hc (fun e => by rcases e with e | e; exact S3.out.unm e.symm; exact S3.out.anm e.symm))
  have TK4 := Lib.hid (S3.out.r.tk.rounds (p := nx + q.ct.toNat - min q.ct.toNat 4) (ss := q.ss) (min q.ct.toNat 4))
  have HBL := Lib.hid (fun s => S3.out.r.tk.bkl s)
  have U4 := Lib.hid hu
  have O4 := Lib.hid ho
  have A4 := Lib.hid ha
  have L4 := Lib.hid hl
  clear hc hu ho ha hl q0 q1 q2 q3 q4 q5 q6 q7 q8 q9 q10 q11 q12 q13
  go_wp2_with fail
  go_ret
  refine ⟨0, ⟨12, q.ep, q.sq, nx, 0, 0, [], q.ss.map (fun s => (s, bk T s)), [], (0, 0, 0), (0, [])⟩, ⟨none, 0, 0, Al, nl, cl, none, 0, 0, none, 0, 0⟩, ep, se, f, rfl, ⟨by decide, by decide⟩, fun _ => ⟨A4.out, ⟨Rp.sl_nil _ _ _ _ _ (Nat.zero_le _), OL.sl L4.out, Rp.sl_nil _ _ _ _ _ (Nat.zero_le _), Rp.sl_nil _ _ _ _ _ (Nat.zero_le _), Nat.zero_le _, ?_, Nat.zero_le _, Nat.zero_le _, ?_, (fun x hx => by cases hx)⟩⟩, ⟨HEP.out, tl, pj, _, At', nt', ct', _, U4.out, ⟨O4.out, ⟨Nat.le_trans TK4.out.1 ?_, TK4.out.2⟩, R4.out.mp.mono (Nat.le_succ _), R4.out.so, R4.out.pj, R4.out.tb1, R4.out.tl1, ?_⟩⟩, C4.out, DR.stay (fun e => by rw [HKD.out] at e; cases e) (fun e => by rw [HKD.out] at e; cases e) (fun e => by rw [HKD.out] at e; cases e) (fun e => by rw [HKD.out] at e; cases e)⟩
  · have h1 := L4.out.len
    rw [List.length_map] at h1
    have := HSS.out.1
    show nl ≤ 100000
    omega
  · intro x hx
    obtain ⟨s, _, rfl⟩ := List.mem_map.1 hx
    have := HBL.out s
    show (bk T s).length ≤ 1000000
    omega
  · have h1 : min q.ct.toNat 4 * q.ss.length ≤ 4 * 16 := Nat.mul_le_mul (Nat.min_le_right _ _) HSS.out.1
    omega
  · have h1 := S3.out.r.nx1
    have h2 := HCC.out
    omega
end
end Go.Proofs.Ytnihaaifkogpbaa
/- (*talk.Unit).does, kind Write (printed by gendoes.py). -/
namespace Go.Proofs.Ytnihaaifkogpbaa
open Go.ChangeShapes Go.WideShapes Go.ChangeAt Go.RowKit
set_option linter.unusedVariables false
section
variable {w : World} {gu gm ga tb nd M ep tl nx nt ct : Nat} {se : Bool} {f : Nat → Option Value} {pj : Value} {At : Option Addr} {T : List Lnk} {D : Dom} {q : Ms} {h : Hd} {d : List UInt8}
set_option maxRecDepth 100000 in
set_option maxHeartbeats 8000000 in
theorem does2_any (hs : DS w gu gm ga tb nd M ep se f tl pj nx At nt ct T D q h (ansY q) hdZb d) (he : EOk ep) (hM : M ≤ 1000) (hok : MOk q) (hkd : q.kd = 2) :
    Calls Try.prog 18 #[.pointer (some ⟨gu, 0, none⟩), .agg (msV q h), .pointer (some ⟨ga, 0, none⟩)] w (DoesIs w gu gm ga tb nd M ep se f q d) := by
  have hps : q.ps < 4611686018427387904 := by
    have h1 := hok.1.2.1
    unfold part at h1
    rw [hkd, if_pos (by decide +kernel : Kd.has 2 1 = true)] at h1
    exact h1
  have hdl : q.dt.length ≤ 1048576 := by
    rcases hok.1.2.2.2.2.2.2.2.2 with h1 | ⟨_, h1⟩
    · omega
    · exact h1
  have hb1 := below1 w (.cells (msV q h) 40)
  have HB1 := Lib.hid hb1
  have K1 := Lib.hid (blk11 w 40 (msV q h))
  have S1 := Lib.hid (hs.below hb1)
  have HAL := Lib.hid hs.a.lt
  have HUL := Lib.hid hs.u.lt
  have HKD := Lib.hid hkd
  have HOK := Lib.hid hok
  have HEP := Lib.hid he
  clear hs hb1 hkd hok he
  go_enter Try.func18, Try.ntmps18
  go_upto_region 1 with (fail)
  obtain ⟨gq, hgq⟩ : ∃ gq, gq = w.heap.size := ⟨_, rfl⟩
  rw [← hgq] at K1 ⊢
  have HGQ := Lib.hid hgq
  clear hgq
  generalize World.alloc w _ = w1 at *
  have a0 := S1.out.a.cell 0
  have af0 := S1.out.a.frozen 0
  have c12 : Chg (fun k => k = ga) w1 (w1.setCell ⟨ga, 0, none⟩ (.int .i64 10)) := (Chg.refl (fun k => k = ga) w1).setCell (p := ⟨ga, 0, none⟩) (.inl rfl) _
  have S2 : Hid (DS (w1.setCell ⟨ga, 0, none⟩ (.int .i64 10)) gu gm ga tb nd M ep se f tl pj nx At nt ct T D q h { ansY q with kd := 10 } hdZb d) := S1.out.ans c12 (S1.out.a.put 0 _)
  have K2 := Lib.hid (chB (show Blk w1 gq 40 (msV q h) from K1.out) c12 (by have := HGQ.out; have := HAL.out; show ¬ gq = ga; omega))
  have C2 := Lib.hid (show Chg (fun k => k = gu ∨ k = gm ∨ k = ga) w _ from (Chg.of_pure HB1.out _).trans (c12.more (fun k _ hk => .inr (.inr hk))))
  clear c12
  go_upto_region 2 with (fail)
  clear a0 af0 K1 S1
  generalize World.setCell w1 _ _ = w2 at *
  have q0 : w2.cell? ⟨gq, 0, none⟩ = some (.int .i64 2) := by
    have hh := (show Blk w2 gq 40 (msV q h) from K2.out).cell 0
    rw [← HKD.out]; exact hh
  go_upto_region 9 with (fail)
  obtain ⟨z, hz⟩ : ∃ z, z = admC ep se q.ep := ⟨_, rfl⟩
  have HZ := Lib.hid hz
  have HAD : Hid (∀ u : World, Calls Try.prog 30 #[.int .u64 (ep : Int), .bool se, .int .u64 (q.ep : Int)] u fun r w' => r = .returned (.int .i64 z) ∧ u = w') := fun u => by
    rw [HZ.out]
    exact admit_any se u HEP.out HOK.out.2
  clear hz
  have u1 : ∀ u : Gr w2.heap.size w2, u.val.cell? ⟨gu, 1, none⟩ = some (.int .u64 (ep : Int)) := fun u => (keepB S2.out.u u.is).cell 1
  have u2 : ∀ u : Gr w2.heap.size w2, u.val.cell? ⟨gu, 2, none⟩ = some (.bool se) := fun u => (keepB S2.out.u u.is).cell 2
  have q1 : ∀ u : Gr w2.heap.size w2, u.val.cell? ⟨gq, 1, none⟩ = some (.int .u64 (q.ep : Int)) := fun u => (keepB (show Blk w2 gq 40 (msV q h) from K2.out) u.is).cell 1
  refine wp_region_grow (by kernel_rfl) (by kernel_rfl) w2.heap.size ?_
  repeat (first | go_big_quiet_step ((go_at_call 30; exact Gr.same _ (HAD.out _))) | quiet_step ((go_at_call 30; exact Gr.same _ (HAD.out _))))
  refine wpQuiet_nil ?_
  rintro w3 ⟨⟨_, hb3⟩, rfl⟩
  have K3 := Lib.hid (keepB (show Blk w2 gq 40 (msV q h) from K2.out) hb3)
  have S3 := Lib.hid (S2.out.below hb3)
  have C3 := Lib.hid (C2.out.trans (Chg.of_pure hb3 _))
  clear u1 u2 q1 hb3 K2 S2 C2 q0
  by_cases hz : z = 0
  case neg =>
    have hz1 : (z != 0) = true := by simpa using hz
    have HZN := Lib.hid hz
    clear hz
    go_wp2_with fail
    go_ret
    exact ⟨z, ansY q, hdZb, ep, se, f, rfl, (by rw [HZ.out]; exact adm_bd _ _ _), fun e => absurd e HZN.out, S3.out.ui HEP.out, C3.out, DR.adm HZN.out HZ.out⟩
  case pos =>
  subst hz
  have q0 : w3.cell? ⟨gq, 0, none⟩ = some (.int .i64 2) := by
    have hh := (show Blk w3 gq 40 (msV q h) from K3.out).cell 0
    rw [← HKD.out]; exact hh
  go_upto_region 16 with (fail)
  clear q0
  have q0 := (show Blk w3 gq 40 (msV q h) from K3.out).cell 0
  have q1 := (show Blk w3 gq 40 (msV q h) from K3.out).cell 1
  have q2 := (show Blk w3 gq 40 (msV q h) from K3.out).cell 2
  have q3 := (show Blk w3 gq 40 (msV q h) from K3.out).cell 3
  have q4 := (show Blk w3 gq 40 (msV q h) from K3.out).cell 4
  have q5 := (show Blk w3 gq 40 (msV q h) from K3.out).cell 5
  have q6 := (show Blk w3 gq 40 (msV q h) from K3.out).cell 6
  have q7 := (show Blk w3 gq 40 (msV q h) from K3.out).cell 7
  have q8 := (show Blk w3 gq 40 (msV q h) from K3.out).cell 8
  have q9 := (show Blk w3 gq 40 (msV q h) from K3.out).cell 9
  have q10 := (show Blk w3 gq 40 (msV q h) from K3.out).cell 10
  have q11 := (show Blk w3 gq 40 (msV q h) from K3.out).cell 11
  have q12 := (show Blk w3 gq 40 (msV q h) from K3.out).cell 12
  have q13 := (show Blk w3 gq 40 (msV q h) from K3.out).cell 13
  obtain ⟨st, hst, hsc⟩ := S3.out.r.so.stat q.ps
  have HSC := Lib.hid hsc
  have HST := Lib.hid hst
  have hn3b : h.n3 ≤ 1048576 := by have h1 := (Rp.sl_len S3.out.m.dt).1; omega
  have Q3 := Lib.hid (show Sl rpU8 w3 D h.A3 h.n3 h.c3 q.dt from ⟨S3.out.m.dt, S3.out.m.dom⟩)
  have hbe1 : Below w3.heap.size w3 (w3.drew.alloc (.cells #[] 5)) := ((Below.refl _ w3).drew).alloc (Nat.le_refl _) _
  have hbe2 : Below w3.heap.size w3 (w3.drew.alloc (.cells #[.int .i64 4] 3)) := ((Below.refl _ w3).drew).alloc (Nat.le_refl _) _
  have hbe12 : Below w3.heap.size w3 ((w3.drew.alloc (.cells #[] 5)).alloc (.cells #[.int .i64 4] 3)) := hbe1.alloc hbe1.size _
  have hbe21 : Below w3.heap.size w3 ((w3.drew.alloc (.cells #[.int .i64 4] 3)).alloc (.cells #[] 5)) := hbe2.alloc hbe2.size _
  have HNQ := Lib.hid (show gq < w3.heap.size from (show Blk w3 gq 40 _ from K3.out).lt)
  have KD := Lib.hid (keepB (show Blk w3 gq 40 (msV q h) from K3.out) ((Below.refl _ w3).drew))
  have KD1 := Lib.hid (keepB (show Blk w3 gq 40 (msV q h) from K3.out) hbe1)
  have KD2 := Lib.hid (keepB (show Blk w3 gq 40 (msV q h) from K3.out) hbe2)
  have KD12 := Lib.hid (keepB (show Blk w3 gq 40 (msV q h) from K3.out) hbe12)
  have KD21 := Lib.hid (keepB (show Blk w3 gq 40 (msV q h) from K3.out) hbe21)
  have KE1 : Hid (Blk (w3.alloc (.cells #[] 5)).drew gq 40 (msV q h)) := KD1.out
  have KE2 : Hid (Blk (w3.alloc (.cells #[.int .i64 4] 3)).drew gq 40 (msV q h)) := KD2.out
  have KE12 : Hid (Blk ((w3.alloc (.cells #[] 5)).alloc (.cells #[.int .i64 4] 3)).drew gq 40 (msV q h)) := KD12.out
  have KE21 : Hid (Blk ((w3.alloc (.cells #[.int .i64 4] 3)).alloc (.cells #[] 5)).drew gq 40 (msV q h)) := KD21.out
  have SD1 := Lib.hid (S3.out.below hbe1)
  have SD12 := Lib.hid (S3.out.below hbe12)
  have SD21 := Lib.hid (S3.out.below hbe21)
  have CD1 := Lib.hid (C3.out.trans (Chg.of_pure hbe1 _))
  have CD12 := Lib.hid (C3.out.trans (Chg.of_pure hbe12 _))
  have CD21 := Lib.hid (C3.out.trans (Chg.of_pure hbe21 _))
  have HSR1 := Lib.hid (Src.bytes (keepS Q3.out hbe1).1)
  have HSR12 := Lib.hid (Src.bytes (keepS Q3.out hbe12).1)
  have HSR21 := Lib.hid (Src.bytes (keepS Q3.out hbe21).1)
  have hz1 : (w3.drew.alloc (.cells #[] 5)).heap.size = w3.heap.size + 1 := by simp
  have hz2 : (w3.drew.alloc (.cells #[.int .i64 4] 3)).heap.size = w3.heap.size + 1 := by simp
  have HM1 := Lib.hid (World.ownsRow_made (e := 5) (size := 1) (base := w3.heap.size) w3.drew #[] 0 (Nat.le_refl _) (by decide) rfl)
  have hm21 := World.ownsRow_made (e := 5) (size := 1) (base := w3.heap.size) (w3.drew.alloc (.cells #[.int .i64 4] 3)) #[] 0 (by simp) (by decide) rfl
  rw [hz2] at hm21
  have HM21 := Lib.hid hm21
  have hx12 := Blk.new (w3.drew.alloc (.cells #[] 5)) 3 #[.int .i64 4]
  rw [hz1] at hx12
  have HX12 := Lib.hid hx12
  have HX21 := Lib.hid ((Blk.new w3.drew 3 #[.int .i64 4]).alloc (.cells #[] 5))
  have HB12 := Lib.hid hbe12
  have HB21 := Lib.hid hbe21
  have HB1b := Lib.hid hbe1
  have HZU := Lib.hid (S3.out.u.lt)
  have HZM := Lib.hid (S3.out.r.mp.lt)
  have HZA := Lib.hid (S3.out.a.lt)
  clear hz1 hz2 hm21 hx12 hbe1 hbe2 hbe12 hbe21 q0 q1 q2 q3 q4 q5 q6 q7 q8 q9 q10 q11 q12 q13
  go_region_held3 (fun w' => w'.cell? ⟨gq, 0, none⟩ = some (.int .i64 q.kd) ∧ w'.cell? ⟨gq, 1, none⟩ = some (.int .u64 (q.ep : Int)) ∧ w'.cell? ⟨gq, 2, none⟩ = some (.int .u64 (q.sq : Int)) ∧ w'.cell? ⟨gq, 3, none⟩ = some (.int .u64 (q.ps : Int)) ∧ w'.cell? ⟨gq, 4, none⟩ = some (.int .i64 q.ct) ∧ w'.cell? ⟨gq, 5, none⟩ = some (.int .i64 q.st) ∧ w'.cell? ⟨gq, 6, none⟩ = some (.slice h.A1 h.n1 h.c1) ∧ w'.cell? ⟨gq, 7, none⟩ = some (.slice h.A2 h.n2 h.c2) ∧ w'.cell? ⟨gq, 8, none⟩ = some (.slice h.A3 h.n3 h.c3) ∧ w'.cell? ⟨gq, 9, none⟩ = some (.int .u64 (q.se.1 : Int)) ∧ w'.cell? ⟨gq, 10, none⟩ = some (.int .u64 (q.se.2.1 : Int)) ∧ w'.cell? ⟨gq, 11, none⟩ = some (.int .u64 (q.se.2.2 : Int)) ∧ w'.cell? ⟨gq, 12, none⟩ = some (.int .u64 (q.pr.1 : Int)) ∧ w'.cell? ⟨gq, 13, none⟩ = some (.slice h.A4 h.n4 h.c4))
      (first | with_reducible exact msAll K3.out | with_reducible exact msAll KD.out | with_reducible exact msAll KD1.out | with_reducible exact msAll KD2.out | with_reducible exact msAll KD12.out | with_reducible exact msAll KD21.out | with_reducible exact msAll K4.out | with_reducible exact msAll K5.out | with_reducible exact msAll K6.out | with_reducible exact msAll KE1.out | with_reducible exact msAll KE2.out | with_reducible exact msAll KE12.out | with_reducible exact msAll KE21.out)
      (first
       | (refine step_app rfl (.tmp 55) (.tmp 57) _ rfl elemU8 (by rfl) HM1.out (by rfl) HSR1.out (by unfold maxLen; omega) (by omega) (by simp <;> omega) ?_
          intro A4 c4 w4 ho4 hg4 hat4
          have ho4z := own_zeroA ho4
          have hb4 : Below w3.heap.size w3 w4 := HB1b.out.grown hg4 HB1b.out.size (fun j hj => by have e : j = w3.heap.size := (by injection hj with hj; exact hj.symm); omega)
          have K4 := Lib.hid (keepB (show Blk w3 gq 40 (msV q h) from K3.out) hb4)
          have hb5 := hb4.alloc hb4.size (.cells #[.int .i64 4] 3)
          have HF5 := Lib.hid (blk11 w4 3 #[.int .i64 4])
          have HO5 := Lib.hid (ho4z.alloc (.cells #[.int .i64 4] 3))
          have S5 := Lib.hid (S3.out.below hb5)
          have K5 := Lib.hid (keepB (show Blk w3 gq 40 (msV q h) from K3.out) hb5)
          have C5 := Lib.hid (C3.out.trans (Chg.of_pure hb5 _))
          have HCH := Lib.hid (changeW_any (gf := w4.heap.size) (n := h.n3) S5.out HEP.out HKD.out rfl HST.out HSC.out hps hM HF5.out HO5.out HZU.out HZM.out hn3b)
          clear ho4 ho4z hg4 hat4 hb4 hb5)
       | (refine step_app rfl (.tmp 55) (.tmp 57) _ rfl elemU8 (by rfl) (HM1.out.alloc (.cells #[.int .i64 4] 3)) (by rfl) HSR12.out (by unfold maxLen; omega) (by omega) (by simp <;> omega) ?_
          intro A4 c4 w4 ho4 hg4 hat4
          have ho4z := own_zeroA ho4
          have hb4 : Below w3.heap.size w3 w4 := HB12.out.grown hg4 HB12.out.size (fun j hj => by have e : j = w3.heap.size := (by injection hj with hj; exact hj.symm); omega)
          have K4 := Lib.hid (keepB (show Blk w3 gq 40 (msV q h) from K3.out) hb4)
          have hb5 := hb4
          have HF5 := Lib.hid (HX12.out.grown hg4 (fun e => by injection e with e; simp at e))
          have HO5 := Lib.hid ho4z
          have S5 := Lib.hid (S3.out.below hb5)
          have K5 := Lib.hid (keepB (show Blk w3 gq 40 (msV q h) from K3.out) hb5)
          have C5 := Lib.hid (C3.out.trans (Chg.of_pure hb5 _))
          have HCH := Lib.hid (changeW_any (gf := (w3.heap.size + 1)) (n := h.n3) S5.out HEP.out HKD.out rfl HST.out HSC.out hps hM HF5.out HO5.out HZU.out HZM.out hn3b)
          clear ho4 ho4z hg4 hat4 hb4 hb5)
       | (refine step_app rfl (.tmp 55) (.tmp 57) _ rfl elemU8 (by rfl) HM21.out (by rfl) HSR21.out (by unfold maxLen; omega) (by omega) (by simp <;> omega) ?_
          intro A4 c4 w4 ho4 hg4 hat4
          have ho4z := own_zeroA ho4
          have hb4 : Below w3.heap.size w3 w4 := HB21.out.grown hg4 HB21.out.size (fun j hj => by have e : j = w3.heap.size + 1 := (by injection hj with hj; exact hj.symm); omega)
          have K4 := Lib.hid (keepB (show Blk w3 gq 40 (msV q h) from K3.out) hb4)
          have hb5 := hb4
          have HF5 := Lib.hid (HX21.out.grown hg4 (fun e => by injection e with e; simp at e))
          have HO5 := Lib.hid ho4z
          have S5 := Lib.hid (S3.out.below hb5)
          have K5 := Lib.hid (keepB (show Blk w3 gq 40 (msV q h) from K3.out) hb5)
          have C5 := Lib.hid (C3.out.trans (Chg.of_pure hb5 _))
          have HCH := Lib.hid (changeW_any (gf := w3.heap.size) (n := h.n3) S5.out HEP.out HKD.out rfl HST.out HSC.out hps hM HF5.out HO5.out HZU.out HZM.out hn3b)
          clear ho4 ho4z hg4 hat4 hb4 hb5)
       | (go_at_call 32
          refine HCH.out.mono ?_
          rintro e w6 ⟨code, rfl, hw⟩
          have K6 := Lib.hid (chB (show Blk _ gq 40 (msV q h) from K5.out) hw.chg (fun e => by
            rcases e with e | e
            · have h1 := HGQ.out
              have h2 := HUL.out
              omega
            · exact S3.out.r.mp.no (by rw [← e]; exact (show Blk w3 gq 40 _ from K3.out))))
          have HW := Lib.hid hw
          clear hw))
  all_goals
    go_wp2_with fail
    go_ret
    obtain ⟨f', hui, hdr⟩ := HW.out.ui
    exact ⟨code, { ansY q with kd := 10 }, hdZb, ep, se, f', rfl, HW.out.bd, fun _ => ⟨HW.out.ma, CpOk.plain _ _ _ _ _ _ _ _⟩, hui, C5.out.trans (HW.out.chg.more (fun k _ hk => by rcases hk with hk | hk; exact .inl hk; exact .inr (.inl hk))), hdr⟩
end
end Go.Proofs.Ytnihaaifkogpbaa
/- A talk in plain words: what is wrong with a message behind others, and what a log of the talk holds. No walk. -/
namespace Go.Proofs.Ytnihaaifkogpbaa
set_option linter.unusedVariables false
abbrev rq (m : Ms) : Bool := Kd.an m.kd != 0
def optI : Option Nat → Int
  | none => -1
  | some k => (k : Int)
theorem optI_neg {o : Option Nat} : optI o = -1 ↔ o = none := by
  cases o with
  | none => simp [optI]
  | some k => simp [optI]
theorem optI_some {o : Option Nat} {k : Nat} : optI o = (k : Int) ↔ o = some k := by
  cases o with
  | none => simp [optI]
  | some j => simp [optI]; omega
def firstTo (P : Nat → Bool) : Nat → Option Nat
  | 0 => none
  | n + 1 => match firstTo P n with
    | some k => some k
    | none => if P n = true then some n else none
theorem firstTo_none {P : Nat → Bool} {n : Nat} : firstTo P n = none ↔ ∀ i, i < n → P i = false := by
  induction n with
  | zero => exact ⟨fun _ i h => absurd h (Nat.not_lt_zero _), fun _ => rfl⟩
  | succ n ih =>
    rw [firstTo]
    cases h : firstTo P n with
    | some k =>
      refine ⟨fun h' => (by cases h'), fun h' => ?_⟩
      have := ih.2 (fun i hi => h' i (by omega))
      rw [h] at this; cases this
    | none =>
      have h0 := ih.1 h
      dsimp only
      by_cases hp : P n = true
      · rw [if_pos hp]
        exact ⟨fun h' => (by cases h'), fun h' => by rw [h' n (by omega)] at hp; cases hp⟩
      · rw [if_neg hp]
        refine ⟨fun _ i hi => ?_, fun _ => rfl⟩
        rcases Nat.lt_or_ge i n with h1 | h1
        · exact h0 i h1
        · obtain rfl : i = n := by omega
          simpa using hp
theorem firstTo_some {P : Nat → Bool} {n k : Nat} : firstTo P n = some k ↔ k < n ∧ P k = true ∧ ∀ j, j < k → P j = false := by
  induction n with
  | zero => exact ⟨fun h => (by cases h), fun h => absurd h.1 (Nat.not_lt_zero _)⟩
  | succ n ih =>
    rw [firstTo]
    cases h : firstTo P n with
    | some k' =>
      dsimp only
      constructor
      · intro e
        injection e with e
        subst e
        obtain ⟨a, b, c⟩ := ih.1 h
        exact ⟨by omega, b, c⟩
      · rintro ⟨a, b, c⟩
        rcases Nat.lt_or_ge k n with h1 | h1
        · rw [← h]; exact ih.2 ⟨h1, b, c⟩
        · obtain rfl : k = n := by omega
          have := (firstTo_none (P := P)).2 c
          rw [h] at this; cases this
    | none =>
      dsimp only
      have h0 := firstTo_none.1 h
      by_cases hp : P n = true
      · rw [if_pos hp]
        constructor
        · intro e
          injection e with e
          subst e
          exact ⟨by omega, hp, h0⟩
        · rintro ⟨a, b, c⟩
          rcases Nat.lt_or_ge k n with h1 | h1
          · rw [h0 k h1] at b; cases b
          · obtain rfl : k = n := by omega
            rfl
      · rw [if_neg hp]
        constructor
        · intro e; cases e
        · rintro ⟨a, b, c⟩
          rcases Nat.lt_or_ge k n with h1 | h1
          · rw [h0 k h1] at b; cases b
          · obtain rfl : k = n := by omega
            exact absurd b hp
theorem firstTo_succ_some {P : Nat → Bool} {n k : Nat} (h : firstTo P n = some k) : firstTo P (n + 1) = some k := by rw [firstTo, h]
theorem firstTo_succ_no {P : Nat → Bool} {n : Nat} (h : P n = false) : firstTo P (n + 1) = firstTo P n := by
  rw [firstTo]
  cases firstTo P n with
  | some k => rfl
  | none => dsimp only; rw [if_neg (by rw [h]; decide)]
theorem firstTo_succ_yes {P : Nat → Bool} {n : Nat} (h0 : firstTo P n = none) (h : P n = true) : firstTo P (n + 1) = some n := by rw [firstTo, h0]; dsimp only; rw [if_pos h]
theorem firstTo_congr {P Q : Nat → Bool} {n : Nat} (h : ∀ i, i < n → P i = Q i) : firstTo P n = firstTo Q n := by
  induction n with
  | zero => rfl
  | succ n ih => rw [firstTo, firstTo, ih (fun i hi => h i (by omega)), h n (by omega)]
def isReq (l : List Ms) (s i : Nat) : Bool := match l[i]? with | some m => rq m && m.sq == s | none => false
def isAns (l : List Ms) (s i : Nat) : Bool := match l[i]? with | some m => !rq m && m.sq == s | none => false
def isRq (l : List Ms) (i : Nat) : Bool := match l[i]? with | some m => rq m | none => false
theorem isReq_at {l : List Ms} {s i : Nat} {m : Ms} (h : l[i]? = some m) : isReq l s i = (rq m && m.sq == s) := by unfold isReq; rw [h]
theorem isAns_at {l : List Ms} {s i : Nat} {m : Ms} (h : l[i]? = some m) : isAns l s i = (!rq m && m.sq == s) := by unfold isAns; rw [h]
theorem isRq_at {l : List Ms} {i : Nat} {m : Ms} (h : l[i]? = some m) : isRq l i = rq m := by unfold isRq; rw [h]
theorem isReq_inv {l : List Ms} {s i : Nat} (h : isReq l s i = true) : ∃ m, l[i]? = some m ∧ rq m = true ∧ m.sq = s := by
  unfold isReq at h
  split at h
  · next m hm =>
    rw [Bool.and_eq_true, beq_iff_eq] at h
    exact ⟨m, hm, h.1, h.2⟩
  · cases h
theorem isAns_inv {l : List Ms} {s i : Nat} (h : isAns l s i = true) : ∃ m, l[i]? = some m ∧ rq m = false ∧ m.sq = s := by
  unfold isAns at h
  split at h
  · next m hm =>
    rw [Bool.and_eq_true, beq_iff_eq, Bool.not_eq_true'] at h
    exact ⟨m, hm, h.1, h.2⟩
  · cases h
def askedTo (l : List Ms) (s n : Nat) : Option Nat := firstTo (isReq l s) n
def answdTo (l : List Ms) (s n : Nat) : Option Nat := firstTo (isAns l s) n
def Late (l : List Ms) (i s : Nat) : Prop := ∃ k m, k < i ∧ l[k]? = some m ∧ rq m = true ∧ s ≤ m.sq
noncomputable def ansC (l : List Ms) (i : Nat) (m : Ms) : Int :=
  match askedTo l m.sq i with
  | none => 16
  | some k => if (answdTo l m.sq i).isSome = true then 18 else match l[k]? with | some q => fitsC q m | none => 0
open Classical in
noncomputable def atM (l : List Ms) (i : Nat) (m : Ms) : Int :=
  if ¬ MOk m then 3 else if rq m = true then (if Late l i m.sq then 13 else 0) else ansC l i m
noncomputable def atC (l : List Ms) (i : Nat) : Int := match l[i]? with | some m => atM l i m | none => 0
theorem atC_at {l : List Ms} {i : Nat} {m : Ms} (h : l[i]? = some m) : atC l i = atM l i m := by unfold atC; rw [h]
def Good (l : List Ms) (i : Nat) : Prop := ∀ j, j < i → atC l j = 0
theorem good_zero (l : List Ms) : Good l 0 := fun j h => absurd h (Nat.not_lt_zero _)
theorem good_succ {l : List Ms} {i : Nat} (h : Good l i) (h0 : atC l i = 0) : Good l (i + 1) := fun j hj => by
  rcases Nat.lt_or_ge j i with h1 | h1
  · exact h j h1
  · obtain rfl : j = i := by omega
    exact h0
theorem good_less {l : List Ms} {i j : Nat} (h : Good l i) (hj : j ≤ i) : Good l j := fun k hk => h k (by omega)
noncomputable def res (l : List Ms) : Nat × Int := match firstTo (fun i => decide (atC l i ≠ 0)) l.length with | none => (l.length, 0) | some i => (i, atC l i)
theorem res_good {l : List Ms} (h : Good l l.length) : res l = (l.length, 0) := by
  have : firstTo (fun i => decide (atC l i ≠ 0)) l.length = none := firstTo_none.2 fun i hi => by
    have := h i hi
    simp [this]
  unfold res; rw [this]
theorem res_bad {l : List Ms} {i : Nat} {c : Int} (h : Good l i) (hi : i < l.length) (hc : atC l i = c) (h0 : c ≠ 0) : res l = (i, c) := by
  have : firstTo (fun i => decide (atC l i ≠ 0)) l.length = some i := firstTo_some.2 ⟨hi, by rw [decide_eq_true_iff, hc]; exact h0, fun j hj => by
    have := h j hj
    simp [this]⟩
  unfold res; rw [this]; dsimp only; rw [hc]
theorem res_cases (l : List Ms) : (Good l l.length ∧ res l = (l.length, 0)) ∨ ∃ i, i < l.length ∧ Good l i ∧ atC l i ≠ 0 ∧ res l = (i, atC l i) := by
  cases h : firstTo (fun i => decide (atC l i ≠ 0)) l.length with
  | none =>
    have hg : Good l l.length := fun i hi => by
      have := firstTo_none.1 h i hi
      simpa using this
    exact .inl ⟨hg, res_good hg⟩
  | some i =>
    obtain ⟨a, b, c⟩ := firstTo_some.1 h
    have hg : Good l i := fun j hj => by
      have := c j hj
      simpa using this
    have hb : atC l i ≠ 0 := by simpa using b
    exact .inr ⟨i, a, hg, hb, res_bad hg a rfl hb⟩
/-! ### A beginning of a talk -/
theorem take_at {l : List Ms} {n i : Nat} (h : i < n) : (l.take n)[i]? = l[i]? := by rw [List.getElem?_take, if_pos h]
theorem asked_take {l : List Ms} {n i s : Nat} (h : i ≤ n) : askedTo (l.take n) s i = askedTo l s i :=
  firstTo_congr fun j hj => by unfold isReq; rw [take_at (by omega)]
theorem answd_take {l : List Ms} {n i s : Nat} (h : i ≤ n) : answdTo (l.take n) s i = answdTo l s i :=
  firstTo_congr fun j hj => by unfold isAns; rw [take_at (by omega)]
theorem late_take {l : List Ms} {n i s : Nat} (h : i ≤ n) : Late (l.take n) i s ↔ Late l i s :=
  ⟨fun ⟨k, m, a, b, c⟩ => ⟨k, m, a, by rw [take_at (by omega)] at b; exact b, c⟩, fun ⟨k, m, a, b, c⟩ => ⟨k, m, a, by rw [take_at (by omega)]; exact b, c⟩⟩
theorem asked_lt {l : List Ms} {s i k : Nat} (h : askedTo l s i = some k) : k < i ∧ ∃ m, l[k]? = some m ∧ rq m = true ∧ m.sq = s := by
  obtain ⟨a, b, _⟩ := firstTo_some.1 h
  exact ⟨a, isReq_inv b⟩
theorem answd_lt {l : List Ms} {s i k : Nat} (h : answdTo l s i = some k) : k < i ∧ ∃ m, l[k]? = some m ∧ rq m = false ∧ m.sq = s := by
  obtain ⟨a, b, _⟩ := firstTo_some.1 h
  exact ⟨a, isAns_inv b⟩
theorem ansC_take {l : List Ms} {n i : Nat} {m : Ms} (h : i ≤ n) : ansC (l.take n) i m = ansC l i m := by
  unfold ansC
  rw [asked_take h, answd_take h]
  cases hk : askedTo l m.sq i with
  | none => rfl
  | some k => dsimp only; rw [take_at (by have := (asked_lt hk).1; omega)]
open Classical in
theorem atC_take {l : List Ms} {n i : Nat} (h : i < n) : atC (l.take n) i = atC l i := by
  unfold atC
  rw [take_at h]
  cases l[i]? with
  | none => rfl
  | some m =>
    dsimp only
    unfold atM
    rw [ansC_take (by omega)]
    have e : (if Late (l.take n) i m.sq then (13 : Int) else 0) = if Late l i m.sq then 13 else 0 := by
      by_cases hl : Late l i m.sq
      · rw [if_pos hl, if_pos ((late_take (by omega)).2 hl)]
      · rw [if_neg hl, if_neg (fun hc => hl ((late_take (by omega)).1 hc))]
    rw [e]
theorem res_take {l : List Ms} {n : Nat} (hn : n ≤ l.length) : res (l.take n) = if n ≤ (res l).1 then (n, 0) else res l := by
  have hlen : (l.take n).length = n := by rw [List.length_take]; omega
  have hg : ∀ i, i ≤ n → Good l i → Good (l.take n) i := fun i hi h j hj => by rw [atC_take (by omega)]; exact h j hj
  rcases res_cases l with ⟨h1, h2⟩ | ⟨i, h1, h2, h3, h4⟩
  · rw [h2, if_pos hn]
    have h := hg n (Nat.le_refl _) (good_less h1 hn)
    have := res_good (l := l.take n) (by rw [hlen]; exact h)
    rw [this, hlen]
  · rw [h4]
    dsimp only
    by_cases hin : n ≤ i
    · rw [if_pos hin]
      have h := hg n (Nat.le_refl _) (good_less h2 hin)
      have := res_good (l := l.take n) (by rw [hlen]; exact h)
      rw [this, hlen]
    · rw [if_neg hin]
      exact res_bad (hg i (by omega) h2) (by rw [hlen]; omega) (atC_take (by omega)) h3
/-! ### What follows of a good beginning -/
open Classical in
theorem fits_ok {q a : Ms} (h : fitsC q a = 0) : MOk q ∧ MOk a := by
  unfold fitsC at h
  by_cases hc : ¬ (MOk q ∧ MOk a)
  · rw [if_pos hc] at h; cases h
  · exact Decidable.byContradiction hc
theorem atM_req {l : List Ms} {i : Nat} {m : Ms} (h : atM l i m = 0) (hr : rq m = true) : ¬ Late l i m.sq := fun hl => by
  unfold atM at h
  by_cases hc : ¬ MOk m
  · rw [if_pos hc] at h; cases h
  · rw [if_neg hc, if_pos hr, if_pos hl] at h; cases h
theorem atM_ans {l : List Ms} {i : Nat} {m : Ms} (h : atM l i m = 0) (hr : rq m = false) : ∃ k q, askedTo l m.sq i = some k ∧ l[k]? = some q ∧ answdTo l m.sq i = none ∧ fitsC q m = 0 := by
  unfold atM at h
  by_cases hc : ¬ MOk m
  · rw [if_pos hc] at h; cases h
  · rw [if_neg hc, if_neg (by rw [hr]; decide)] at h
    unfold ansC at h
    cases hk : askedTo l m.sq i with
    | none => rw [hk] at h; cases h
    | some k =>
      rw [hk] at h
      dsimp only at h
      cases ha : answdTo l m.sq i with
      | some j => rw [ha] at h; cases h
      | none =>
        rw [ha] at h
        obtain ⟨_, q, hq, _⟩ := asked_lt hk
        rw [hq] at h
        exact ⟨k, q, rfl, hq, rfl, h⟩
theorem good_rise {l : List Ms} {i j k : Nat} {a b : Ms} (h : Good l i) (hjk : j < k) (hk : k < i) (ha : l[j]? = some a) (hb : l[k]? = some b) (ra : rq a = true) (rb : rq b = true) : a.sq < b.sq := by
  have h0 := h k hk
  rw [atC_at hb] at h0
  exact Nat.lt_of_not_le fun hle => atM_req h0 rb ⟨j, a, hjk, ha, ra, hle⟩
theorem good_one {l : List Ms} {i j k : Nat} {a b : Ms} (h : Good l i) (hj : j < i) (hk : k < i) (ha : l[j]? = some a) (hb : l[k]? = some b) (ra : rq a = true) (rb : rq b = true) (e : a.sq = b.sq) : j = k := by
  rcases Nat.lt_trichotomy j k with h1 | h1 | h1
  · have := good_rise h h1 hk ha hb ra rb; omega
  · exact h1
  · have := good_rise h h1 hj hb ha rb ra; omega
theorem good_ans {l : List Ms} {i j : Nat} {a : Ms} (h : Good l i) (hj : j < i) (ha : l[j]? = some a) (ra : rq a = false) : ∃ k q, k < j ∧ l[k]? = some q ∧ rq q = true ∧ q.sq = a.sq ∧ fitsC q a = 0 := by
  have h0 := h j hj
  rw [atC_at ha] at h0
  obtain ⟨k, q, hk, hq, _, hf⟩ := atM_ans h0 ra
  obtain ⟨h1, q', hq', h2, h3⟩ := asked_lt hk
  rw [hq] at hq'
  injection hq' with hq'
  subst hq'
  exact ⟨k, q, h1, hq, h2, h3, hf⟩
/-! ### What the log holds -/
def rqs (l : List Ms) : Nat → List Nat
  | 0 => []
  | i + 1 => if isRq l i = true then rqs l i ++ [i] else rqs l i
def ansI (l : List Ms) (n k : Nat) : Int := match l[k]? with | some m => optI (answdTo l m.sq n) | none => -1
def prsOf (l : List Ms) (n i : Nat) : List (Nat × Int) := (rqs l i).map fun k => (k, ansI l n k)
def lastTo (l : List Ms) : Nat → Option Nat
  | 0 => none
  | i + 1 => match l[i]? with | some m => if rq m = true then some m.sq else lastTo l i | none => lastTo l i
theorem rqs_mem {l : List Ms} {i k : Nat} : k ∈ rqs l i ↔ k < i ∧ ∃ m, l[k]? = some m ∧ rq m = true := by
  induction i with
  | zero => exact ⟨fun h => absurd h (List.not_mem_nil), fun h => absurd h.1 (Nat.not_lt_zero _)⟩
  | succ i ih =>
    rw [rqs]
    by_cases h : isRq l i = true
    · rw [if_pos h, List.mem_append, ih]
      have hm : ∃ m, l[i]? = some m ∧ rq m = true := by
        unfold isRq at h
        split at h
        · next m hm => exact ⟨m, hm, h⟩
        · cases h
      constructor
      · rintro (⟨a, b⟩ | a)
        · exact ⟨by omega, b⟩
        · obtain rfl : k = i := by simpa using a
          exact ⟨by omega, hm⟩
      · rintro ⟨a, b⟩
        rcases Nat.lt_or_ge k i with h1 | h1
        · exact .inl ⟨h1, b⟩
        · obtain rfl : k = i := by omega
          exact .inr (by simp)
    · rw [if_neg h, ih]
      constructor
      · rintro ⟨a, b⟩; exact ⟨by omega, b⟩
      · rintro ⟨a, m, b, c⟩
        rcases Nat.lt_or_ge k i with h1 | h1
        · exact ⟨h1, m, b, c⟩
        · obtain rfl : k = i := by omega
          rw [isRq_at b] at h; exact absurd c h
theorem rqs_len (l : List Ms) (i : Nat) : (rqs l i).length ≤ i := by
  induction i with
  | zero => exact Nat.le_refl _
  | succ i ih =>
    rw [rqs]; split
    · rw [List.length_append]; simp; omega
    · omega
theorem rqs_nodup (l : List Ms) (i : Nat) : (rqs l i).Nodup := by
  induction i with
  | zero => exact List.nodup_nil
  | succ i ih =>
    rw [rqs]; split
    · rw [List.nodup_append]
      exact ⟨ih, by simp, fun a ha b hb => by
        have := (rqs_mem.1 ha).1
        obtain rfl : b = i := by simpa using hb
        omega⟩
    · exact ih
theorem rqs_inj {l : List Ms} {i p p' k : Nat} (h : (rqs l i)[p]? = some k) (h' : (rqs l i)[p']? = some k) : p = p' := by
  obtain ⟨hp, hpe⟩ := List.getElem?_eq_some_iff.1 h
  obtain ⟨hp', hpe'⟩ := List.getElem?_eq_some_iff.1 h'
  have hn := List.pairwise_iff_getElem.1 (rqs_nodup l i)
  rcases Nat.lt_trichotomy p p' with h1 | h1 | h1
  · exact absurd (hpe.trans hpe'.symm) (hn p p' hp hp' h1)
  · exact h1
  · exact absurd (hpe'.trans hpe.symm) (hn p' p hp' hp h1)
theorem prs_len (l : List Ms) (n i : Nat) : (prsOf l n i).length = (rqs l i).length := List.length_map ..
theorem prs_at {l : List Ms} {n i p k : Nat} {a : Int} : (prsOf l n i)[p]? = some (k, a) ↔ (rqs l i)[p]? = some k ∧ ansI l n k = a := by
  unfold prsOf
  rw [List.getElem?_map]
  cases h : (rqs l i)[p]? with
  | none => simp
  | some k' =>
    simp only [Option.map_some, Option.some.injEq, Prod.mk.injEq]
    constructor
    · rintro ⟨rfl, h⟩; exact ⟨rfl, h⟩
    · rintro ⟨rfl, h⟩; exact ⟨rfl, h⟩
structure LogIs (l : List Ms) (i : Nat) (ps : List (Nat × Int)) (f : Nat → Option Nat) (last : Nat) (begun : Bool) : Prop where
  eqn : ps = prsOf l i i
  opn : ∀ s p, f s = some p ↔ ∃ k m, ps[p]? = some (k, -1) ∧ l[k]? = some m ∧ m.sq = s
  lst : lastTo l i = if begun = true then some last else none
theorem log_zero (l : List Ms) : LogIs l 0 [] (fun _ => none) 0 false :=
  ⟨rfl, fun s p => ⟨fun h => (by cases h), fun ⟨k, m, h, _⟩ => (by simp at h)⟩, rfl⟩
theorem last_some {l : List Ms} {i x : Nat} (hg : Good l i) (h : lastTo l i = some x) : (∃ k m, k < i ∧ l[k]? = some m ∧ rq m = true ∧ m.sq = x) ∧ ∀ k m, k < i → l[k]? = some m → rq m = true → m.sq ≤ x := by
  induction i generalizing x with
  | zero => cases h
  | succ i ih =>
    rw [lastTo] at h
    have old : lastTo l i = some x → (∀ m, l[i]? = some m → rq m = false) → (∃ k m, k < i + 1 ∧ l[k]? = some m ∧ rq m = true ∧ m.sq = x) ∧ ∀ k m, k < i + 1 → l[k]? = some m → rq m = true → m.sq ≤ x := by
      intro h1 h2
      obtain ⟨⟨k, m, a, b⟩, c⟩ := ih (good_less hg (by omega)) h1
      refine ⟨⟨k, m, by omega, b⟩, fun k m hk hm hr => ?_⟩
      rcases Nat.lt_or_ge k i with h3 | h3
      · exact c k m h3 hm hr
      · obtain rfl : k = i := by omega
        rw [h2 m hm] at hr; cases hr
    cases hm : l[i]? with
    | none => rw [hm] at h; exact old h (fun m hm' => by rw [hm] at hm'; cases hm')
    | some m =>
      rw [hm] at h
      dsimp only at h
      by_cases hr : rq m = true
      · rw [if_pos hr] at h
        injection h with h
        subst h
        refine ⟨⟨i, m, by omega, hm, hr, rfl⟩, fun k m' hk hm' hr' => ?_⟩
        rcases Nat.lt_or_ge k i with h3 | h3
        · exact Nat.le_of_lt (good_rise hg h3 (by omega) hm' hm hr' hr)
        · obtain rfl : k = i := by omega
          rw [hm] at hm'
          injection hm' with hm'
          subst hm'; exact Nat.le_refl _
      · rw [if_neg hr] at h
        exact old h (fun m' hm' => by rw [hm] at hm'; injection hm' with hm'; subst hm'; simpa using hr)
theorem last_none {l : List Ms} {i : Nat} (h : lastTo l i = none) : ∀ k m, k < i → l[k]? = some m → rq m = false := by
  induction i with
  | zero => exact fun k m h => absurd h (Nat.not_lt_zero _)
  | succ i ih =>
    rw [lastTo] at h
    intro k m hk hm
    rcases Nat.lt_or_ge k i with h3 | h3
    · refine ih ?_ k m h3 hm
      cases hi : l[i]? with
      | none => rw [hi] at h; exact h
      | some m' =>
        rw [hi] at h
        dsimp only at h
        split at h
        · cases h
        · exact h
    · obtain rfl : k = i := by omega
      rw [hm] at h
      dsimp only at h
      split at h
      · cases h
      · next hr => simpa using hr
section
variable {l : List Ms} {i : Nat} {ps : List (Nat × Int)} {f : Nat → Option Nat} {last : Nat} {begun : Bool} {m : Ms}
theorem LogIs.late (h : LogIs l i ps f last begun) (hg : Good l i) (s : Nat) : Late l i s ↔ begun = true ∧ s ≤ last := by
  have hl := h.lst
  cases begun with
  | true =>
    obtain ⟨⟨k, m, a, b, c, d⟩, e⟩ := last_some hg hl
    exact ⟨fun ⟨k', m', a', b', c', d'⟩ => ⟨rfl, Nat.le_trans d' (e k' m' a' b' c')⟩, fun ⟨_, h1⟩ => ⟨k, m, a, b, c, by omega⟩⟩
  | false =>
    have e := last_none hl
    exact ⟨fun ⟨k, m, a, b, c, d⟩ => (by rw [e k m a b] at c; cases c), fun ⟨h1, _⟩ => (by cases h1)⟩
theorem LogIs.ps_lt (h : LogIs l i ps f last begun) {p k : Nat} {a : Int} (hp : ps[p]? = some (k, a)) : k < i ∧ ∃ m, l[k]? = some m ∧ rq m = true := by
  rw [h.eqn] at hp
  exact rqs_mem.1 (List.mem_of_getElem? (prs_at.1 hp).1)
theorem LogIs.len (h : LogIs l i ps f last begun) : ps.length ≤ i := by rw [h.eqn, prs_len]; exact rqs_len _ _
theorem LogIs.has (h : LogIs l i ps f last begun) {k : Nat} {m : Ms} (hk : k < i) (hm : l[k]? = some m) (hr : rq m = true) : ∃ p : Nat, ps[p]? = some (k, ansI l i k) := by
  obtain ⟨p, hp⟩ := List.getElem?_of_mem (rqs_mem.2 ⟨hk, m, hm, hr⟩)
  exact ⟨p, by rw [h.eqn]; exact prs_at.2 ⟨hp, rfl⟩⟩
theorem lastTo_req (hm : l[i]? = some m) (hr : rq m = true) : lastTo l (i + 1) = some m.sq := by rw [lastTo, hm]; dsimp only; rw [if_pos hr]
theorem lastTo_ans (hm : l[i]? = some m) (hr : rq m = false) : lastTo l (i + 1) = lastTo l i := by rw [lastTo, hm]; dsimp only; rw [if_neg (by rw [hr]; decide)]
/-- A request goes in. -/
theorem LogIs.req (h : LogIs l i ps f last begun) (hg : Good l i) (hm : l[i]? = some m) (hr : rq m = true) (hl : ¬ Late l i m.sq) :
    LogIs l (i + 1) (ps ++ [(i, -1)]) (fun y => if y = m.sq then some ps.length else f y) m.sq true := by
  have hno : ∀ s, answdTo l s (i + 1) = answdTo l s i := fun s => firstTo_succ_no (by rw [isAns_at hm, hr]; rfl)
  have hnew : answdTo l m.sq i = none := firstTo_none.2 fun j hj => Bool.eq_false_iff.2 fun ha => by
    obtain ⟨a, h1, h2, h3⟩ := isAns_inv ha
    obtain ⟨k, q, h4, h5, h6, h7, _⟩ := good_ans hg hj h1 h2
    exact hl ⟨k, q, by omega, h5, h6, by omega⟩
  refine ⟨?_, fun s p => ?_, ?_⟩
  · rw [h.eqn]
    unfold prsOf
    rw [rqs, if_pos (by rw [isRq_at hm]; exact hr), List.map_append]
    congr 1
    · refine List.map_congr_left fun k hk => ?_
      unfold ansI
      cases l[k]? with
      | none => rfl
      | some q => dsimp only; rw [hno]
    · simp only [List.map_cons, List.map_nil]
      unfold ansI
      rw [hm]
      dsimp only
      rw [hno, hnew]; rfl
  · by_cases hs : s = m.sq
    · subst hs
      rw [if_pos rfl]
      constructor
      · intro e
        injection e with e
        subst e
        exact ⟨i, m, by simp, hm, rfl⟩
      · rintro ⟨k, m', h1, h2, h3⟩
        rcases Nat.lt_or_ge p ps.length with h4 | h4
        · rw [List.getElem?_append_left h4] at h1
          obtain ⟨h5, m'', h6, h7⟩ := h.ps_lt h1
          rw [h2] at h6
          injection h6 with h6
          subst h6
          exact absurd ⟨k, m', h5, h2, h7, by omega⟩ hl
        · have h5 := (List.getElem?_eq_some_iff.1 h1).1
          rw [List.length_append, List.length_singleton] at h5
          rw [show p = ps.length by omega]
    · rw [if_neg hs, h.opn]
      constructor
      · rintro ⟨k, m', h1, h2, h3⟩
        exact ⟨k, m', by rw [List.getElem?_append_left (List.getElem?_eq_some_iff.1 h1).1]; exact h1, h2, h3⟩
      · rintro ⟨k, m', h1, h2, h3⟩
        rcases Nat.lt_or_ge p ps.length with h4 | h4
        · rw [List.getElem?_append_left h4] at h1
          exact ⟨k, m', h1, h2, h3⟩
        · have h5 := (List.getElem?_eq_some_iff.1 h1).1
          rw [List.length_append, List.length_singleton] at h5
          obtain rfl : p = ps.length := by omega
          rw [List.getElem?_append_right (Nat.le_refl _), Nat.sub_self] at h1
          simp only [List.getElem?_cons_zero, Option.some.injEq, Prod.mk.injEq] at h1
          obtain ⟨rfl, _⟩ := h1
          rw [hm] at h2
          injection h2 with h2
          subst h2
          exact absurd h3.symm hs
  · rw [lastTo_req hm hr]; rfl
open Classical in
/-- Nothing is open under an answer's number. -/
theorem LogIs.none_open (h : LogIs l i ps f last begun) (hg : Good l i) (hf : f m.sq = none) (hm : MOk m) (hr : rq m = false) :
    atM l i m = if (∃ (p k : Nat) (a : Int) (q : Ms), ps[p]? = some (k, a) ∧ l[k]? = some q ∧ q.sq = m.sq) then 18 else 16 := by
  unfold atM
  rw [if_neg (fun hc => hc hm), if_neg (by rw [hr]; decide)]
  unfold ansC
  cases hk : askedTo l m.sq i with
  | none =>
    rw [if_neg]
    rintro ⟨p, k, a, q, h1, h2, h3⟩
    obtain ⟨h4, q', h5, h6⟩ := h.ps_lt h1
    rw [h2] at h5
    injection h5 with h5
    subst h5
    have := firstTo_none.1 hk k h4
    rw [isReq_at h2, h6, h3] at this
    simp at this
  | some k =>
    dsimp only
    obtain ⟨h1, q, h2, h3, h4⟩ := asked_lt hk
    obtain ⟨p, hp⟩ := h.has h1 h2 h3
    have hs : (answdTo l m.sq i).isSome = true := by
      cases ha : answdTo l m.sq i with
      | some j => rfl
      | none =>
        have : ansI l i k = -1 := by unfold ansI; rw [h2]; dsimp only; rw [h4, ha]; rfl
        rw [this] at hp
        rw [(h.opn m.sq p).2 ⟨k, q, hp, h2, h4⟩] at hf
        cases hf
    rw [if_pos hs, if_pos ⟨p, k, _, q, hp, h2, h4⟩]
/-- Something is open under an answer's number. -/
theorem LogIs.is_open (h : LogIs l i ps f last begun) (hg : Good l i) {p : Nat} (hf : f m.sq = some p) (hm : MOk m) (hr : rq m = false) :
    ∃ k q, ps[p]? = some (k, -1) ∧ k < i ∧ l[k]? = some q ∧ q.sq = m.sq ∧ atM l i m = fitsC q m := by
  obtain ⟨k, q, h1, h2, h3⟩ := (h.opn _ _).1 hf
  obtain ⟨h4, q', h5, h6⟩ := h.ps_lt h1
  rw [h2] at h5
  injection h5 with h5
  subst h5
  have h7 : ansI l i k = -1 := by rw [h.eqn] at h1; exact (prs_at.1 h1).2
  unfold ansI at h7
  rw [h2] at h7
  dsimp only at h7
  rw [h3] at h7
  have h8 := optI_neg.1 h7
  have h9 : askedTo l m.sq i = some k := firstTo_some.2 ⟨h4, by rw [isReq_at h2, h6, h3]; simp, fun j hj => Bool.eq_false_iff.2 fun hc => by
    obtain ⟨a, ha, ra, sa⟩ := isReq_inv hc
    have := good_one hg (show j < i by omega) h4 ha h2 ra h6 (by omega)
    omega⟩
  refine ⟨k, q, h1, h4, h2, h3, ?_⟩
  unfold atM
  rw [if_neg (fun hc => hc hm), if_neg (by rw [hr]; decide)]
  unfold ansC
  rw [h9, h8]
  dsimp only
  rw [h2, if_neg (by decide)]
/-- An answer goes in. -/
theorem LogIs.ans (h : LogIs l i ps f last begun) (hg : Good l i) (hm : l[i]? = some m) (hr : rq m = false) {p k : Nat} {q : Ms} (hf : f m.sq = some p) (hp : ps[p]? = some (k, -1)) (hq : l[k]? = some q) (hs : q.sq = m.sq) :
    LogIs l (i + 1) (ps.set p (k, (i : Int))) (fun y => if y = m.sq then none else f y) last begun := by
  obtain ⟨hki, q', hq', hrq⟩ := h.ps_lt hp
  rw [hq] at hq'
  injection hq' with hq'
  subst hq'
  have hrp : (rqs l i)[p]? = some k := by rw [h.eqn] at hp; exact (prs_at.1 hp).1
  have hn1 : answdTo l m.sq i = none := by
    rw [h.eqn] at hp
    have h7 := (prs_at.1 hp).2
    unfold ansI at h7
    rw [hq] at h7
    dsimp only at h7
    rw [hs] at h7
    exact optI_neg.1 h7
  have hn2 : answdTo l m.sq (i + 1) = some i := firstTo_succ_yes hn1 (by rw [isAns_at hm, hr]; simp)
  have hn3 : ∀ s, s ≠ m.sq → answdTo l s (i + 1) = answdTo l s i := fun s hs => firstTo_succ_no (by rw [isAns_at hm, hr]; simp; exact fun e => hs e.symm)
  have hlen : p < ps.length := (List.getElem?_eq_some_iff.1 hp).1
  have hps : ps.set p (k, (i : Int)) = prsOf l (i + 1) (i + 1) := by
    apply List.ext_getElem?
    intro j
    unfold prsOf
    rw [rqs, if_neg (by rw [isRq_at hm, hr]; decide), List.getElem?_map]
    by_cases hj : j = p
    · subst hj
      rw [List.getElem?_set_self hlen, hrp]
      simp only [Option.map_some, Option.some.injEq, Prod.mk.injEq, true_and]
      unfold ansI
      rw [hq]
      dsimp only
      rw [hs, hn2]; rfl
    · rw [List.getElem?_set_ne (fun e => hj e.symm), h.eqn]
      unfold prsOf
      rw [List.getElem?_map]
      cases hk' : (rqs l i)[j]? with
      | none => rfl
      | some k' =>
        simp only [Option.map_some, Option.some.injEq, Prod.mk.injEq, true_and]
        obtain ⟨h1, q', h2, h3⟩ := rqs_mem.1 (List.mem_of_getElem? hk')
        unfold ansI
        rw [h2]
        dsimp only
        rw [hn3]
        intro e
        have := good_one hg h1 hki h2 hq h3 hrq (by omega)
        subst this
        exact hj (rqs_inj hk' hrp)
  refine ⟨hps, fun s j => ?_, by rw [lastTo_ans hm hr]; exact h.lst⟩
  by_cases hsm : s = m.sq
  · subst hsm
    rw [if_pos rfl]
    refine ⟨fun e => (by cases e), ?_⟩
    rintro ⟨k', m', h1, h2, h3⟩
    by_cases hj : j = p
    · subst hj
      rw [List.getElem?_set_self hlen] at h1
      simp only [Option.some.injEq, Prod.mk.injEq] at h1
      omega
    · rw [List.getElem?_set_ne (fun e => hj e.symm)] at h1
      have := (h.opn m.sq j).2 ⟨k', m', h1, h2, h3⟩
      rw [hf] at this
      injection this with this
      exact absurd this.symm hj
  · rw [if_neg hsm, h.opn]
    constructor
    · rintro ⟨k', m', h1, h2, h3⟩
      have hj : j ≠ p := fun e => by
        subst e
        rw [hp] at h1
        simp only [Option.some.injEq, Prod.mk.injEq, and_true] at h1
        subst h1
        rw [hq] at h2
        injection h2 with h2
        subst h2
        exact hsm (h3.symm.trans hs)
      exact ⟨k', m', by rw [List.getElem?_set_ne (fun e => hj e.symm)]; exact h1, h2, h3⟩
    · rintro ⟨k', m', h1, h2, h3⟩
      have hj : j ≠ p := fun e => by
        subst e
        rw [List.getElem?_set_self hlen] at h1
        simp only [Option.some.injEq, Prod.mk.injEq] at h1
        omega
      rw [List.getElem?_set_ne (fun e => hj e.symm)] at h1
      exact ⟨k', m', h1, h2, h3⟩
end
end Go.Proofs.Ytnihaaifkogpbaa
/- The log of a talk, as it lies: pairs in a row of the call's own, a map, and two words. -/
namespace Go.Proofs.Ytnihaaifkogpbaa
open Go.ChangeShapes Go.WideShapes Go.ChangeAt Go.RowKit
set_option linter.unusedVariables false
abbrev Pr2 := Nat × Int
def pr2 (x : Pr2) : List Value := [.int .i64 (x.1 : Int), .int .i64 x.2]
set_option maxRecDepth 100000 in
theorem elemPr : Elem Try.prog 87 92 2 16 := Elem.of (z := .agg #[.int .i64 0, .int .i64 0]) Try.underlying87 (by kernel_rfl) rfl (by decide)
theorem flat2_len (l : List Pr2) : (l.flatMap pr2).length = l.length * 2 := by
  induction l with
  | nil => rfl
  | cons s l ih => rw [List.flatMap_cons, List.length_append, ih, List.length_cons, show (pr2 s).length = 2 from rfl]; omega
theorem flat2_get (l : List Pr2) : ∀ (i j : Nat), j < 2 → (l.flatMap pr2)[i * 2 + j]? = (l[i]?).bind (fun s => (pr2 s)[j]?) := by
  induction l with
  | nil => intro i j hj; simp
  | cons s l ih =>
    intro i j hj
    rw [List.flatMap_cons]
    cases i with
    | zero =>
      rw [List.getElem?_append_left (by show _ < 2; omega)]
      simp
    | succ i =>
      rw [List.getElem?_append_right (by show 2 ≤ _; omega), show (i + 1) * 2 + j - (pr2 s).length = i * 2 + j by show (i + 1) * 2 + j - 2 = _; omega, ih i j hj]
      simp
theorem flat2_set (l : List Pr2) : ∀ (i : Nat) (k : Nat) (a b : Int), l[i]? = some (k, a) → (l.flatMap pr2).set (i * 2 + 1) (.int .i64 b) = (l.set i (k, b)).flatMap pr2 := by
  induction l with
  | nil => intro i k a b h; simp at h
  | cons s l ih =>
    intro i k a b h
    cases i with
    | zero =>
      have h1 : s = (k, a) := by simpa using h
      subst h1
      rfl
    | succ i =>
      have h1 : l[i]? = some (k, a) := by simpa using h
      rw [List.flatMap_cons, List.set_cons_succ, List.flatMap_cons, ← ih i k a b h1]
      rw [List.set_append_right _ _ (by show 2 ≤ _; omega), show (i + 1) * 2 + 1 - (pr2 s).length = i * 2 + 1 by show (i + 1) * 2 + 1 - 2 = _; omega]
section
variable {w w' : World} {base n c g b bm : Nat} {A : Option Addr} {ps : List Pr2} {f : Nat → Option Nat} {last : Nat} {begun : Bool}
theorem row_cell {e : TypeId} {size : Nat} {vals : List Value} (h : w.ownsRow base e size (.slice A n c) n vals) {j : Nat} {u : Value} (hj : vals[j]? = some u) :
    ∃ g cur, A = some ⟨g, 0, none⟩ ∧ base ≤ g ∧ Blk w g e cur ∧ w.cell? ⟨g, j, none⟩ = some u ∧ (Value.slice A n c).ownBlock = some g := by
  rcases h.2 with ⟨hv, h0⟩ | ⟨g, cap, cur, hv, hg, hh, hnc, hcm, hcs, htake⟩
  · have h1 := h.1
    rw [h0, Nat.zero_mul] at h1
    have := (List.getElem?_eq_some_iff.1 hj).1
    omega
  · injection hv with h1 h2 h3
    subst h1; subst h3
    have hb : Blk w g e cur := hh
    refine ⟨g, cur, rfl, hg, hb, ?_, rfl⟩
    rw [hb.cell]
    rw [← htake, List.getElem?_take] at hj
    split at hj
    · simpa using hj
    · cases hj
theorem row_put {e : TypeId} {size : Nat} {xs : List Value} (h : w.ownsRow base e size (.slice (some ⟨g, 0, none⟩) n c) n xs) (j : Nat) (u : Value) : (w.setCell ⟨g, j, none⟩ u).ownsRow base e size (.slice (some ⟨g, 0, none⟩) n c) n (xs.set j u) := by
  refine ⟨by rw [List.length_set]; exact h.1, ?_⟩
  rcases h.2 with ⟨hv, _⟩ | ⟨q, cap, cur, hv, hg, hh, hnc, hcm, hcs, htake⟩
  · cases hv
  · injection hv with h1 _ h3
    injection h1 with h1
    injection h1 with h1
    subst h1; subst h3
    have hb : Blk w g e cur := hh
    exact .inr ⟨g, c, cur.setIfInBounds j u, rfl, hg, hb.put _ u, hnc, hcm, by simpa using hcs, by rw [Array.toList_setIfInBounds, List.take_set, htake]⟩
theorem row_ne {e t : TypeId} {cs : Array Value} {size : Nat} {v : Value} {xs : List Value} (hb : Blk w g t cs) (ho : w.ownsRow base e size v n xs) (hne : e ≠ t) : some g ≠ v.ownBlock := by
  rcases ho.2 with ⟨hv, _⟩ | ⟨q, cap, cur, hv, _, hh, _⟩
  · rw [hv]; intro e; cases e
  · rw [hv]
    intro e
    injection e with e
    subst e
    have h1 : w.heap[g]? = some (.cells cs t) := hb
    have h2 : w.heap[g]? = some (.cells cur _) := hh
    rw [h1] at h2
    injection h2 with h2
    injection h2 with _ h2
    exact hne h2.symm
theorem map_ne {t : TypeId} {cs : Array Value} (hb : Blk w g t cs) (hm : MapOf w bm n f) : g ≠ bm := fun e => by
  subst e
  obtain ⟨D, ⟨es, clock, h2, _⟩, _⟩ := hm
  have h1 : w.heap[g]? = some (.cells cs t) := hb
  rw [h1] at h2
  cases h2
theorem map_ne_row {e : TypeId} {size m : Nat} {v : Value} {xs : List Value} (hm : MapOf w bm n f) (ho : w.ownsRow base e size v m xs) : some bm ≠ v.ownBlock := by
  rcases ho.2 with ⟨hv, _⟩ | ⟨q, cap, cur, hv, _, hh, _⟩
  · rw [hv]; intro e; cases e
  · rw [hv]
    intro e
    injection e with e
    have hb : Blk w q _ cur := hh
    exact map_ne hb hm e.symm
abbrev logV (A : Option Addr) (n c bm last : Nat) (begun : Bool) : Array Value := #[.slice A n c, .map (some bm), .int .u64 (last : Int), .bool begun]
structure LogIn (w : World) (base b : Nat) (A : Option Addr) (c bm : Nat) (ps : List Pr2) (f : Nat → Option Nat) (last : Nat) (begun : Bool) : Prop where
  b0 : base ≤ b
  bm0 : base ≤ bm
  blk : Blk w b 89 (logV A ps.length c bm last begun)
  own : w.ownsRow base 92 2 (.slice A ps.length c) ps.length (ps.flatMap pr2)
  map : MapOf w bm ps.length f
  l64 : last ≤ 18446744073709551615
theorem LogIn.below {c : Nat} (h : LogIn w base b A c bm ps f last begun) (hb : Below w.heap.size w w') : LogIn w' base b A c bm ps f last begun := by
  refine ⟨h.b0, h.bm0, (hb.block b h.blk.lt).trans h.blk, ⟨h.own.1, ?_⟩, h.map.below hb h.map.lt, h.l64⟩
  rcases h.own.2 with h0 | ⟨g, cap, cur, hv, hg, hh, hr⟩
  · exact .inl h0
  · exact .inr ⟨g, cap, cur, hv, hg, (hb.block g (Blk.lt (w := w) hh)).trans hh, hr⟩
theorem LogIn.size {c : Nat} (h : LogIn w base b A c bm ps f last begun) : base ≤ w.heap.size := Nat.le_of_lt (Nat.lt_of_le_of_lt h.b0 h.blk.lt)
theorem Src.pr (w : World) (x : Pr2) (t : TypeId) : Src (w.alloc (.cells #[.int .i64 (x.1 : Int), .int .i64 x.2] t)) (some ⟨w.heap.size, 0, none⟩) 1 2 ([x].flatMap pr2) := by
  have hb : Blk (w.alloc (.cells #[.int .i64 (x.1 : Int), .int .i64 x.2] t)) w.heap.size t #[.int .i64 (x.1 : Int), .int .i64 x.2] := Blk.new w t _
  refine ⟨rfl, fun u hu => ?_, fun _ => ⟨_, rfl, fun j u hu => ?_⟩⟩
  · have hx : u ∈ pr2 x := by simpa using hu
    simp only [pr2, List.mem_cons, List.not_mem_nil, or_false] at hx
    rcases hx with rfl | rfl <;> rfl
  · rw [add_plain, hb.cell, Nat.zero_add]
    have hx : (pr2 x)[j]? = some u := by simpa using hu
    rw [← hx, ← Array.getElem?_toList]; rfl
end
end Go.Proofs.Ytnihaaifkogpbaa
/- A region whose order is fixed, walked like one that draws its order: reads and calls that only make memory, the facts on cells laid once for all worlds. -/
namespace Go.Proofs.Ytnihaaifkogpbaa
open Go.ChangeShapes Go.WideShapes Go.ChangeAt Go.RowKit
set_option linter.unusedVariables false
theorem wpList_of_quiet {P : Program} {ops : Array Oper} {C : World → Prop} {R : Act → Prop} {Q : Exit → Act → World → Prop} (hQ : ∀ a w, C w → R a → Q .normal a w) : ∀ (l : List Oper) (a : Act) (w : World), C w → wpQuiet P ops C R l a → wpList P ops Q l a w
  | [], a, w, hw, h => hQ a w hw h
  | o :: rest, a, w, hw, h => by
    unfold wpQuiet at h
    unfold wpList
    by_cases hwt : Region.wanted o (yielded ops a.tmps) = true
    · rw [if_pos hwt] at h ⊢
      exact .inl (Oper.wp_of_quiet hw (fun a' w' hw' h' => wpList_of_quiet hQ rest a' w' hw' h') h)
    · rw [if_neg hwt] at h ⊢
      exact wpList_of_quiet hQ rest _ w hw h
theorem wp_region_still {P : Program} {id : Nat} {Q : Exit → Act → World → Prop} {a : Act} {w : World} {l : List Oper} (B : Nat)
    (h : wpQuiet P l.toArray (fun w' => ∃ x : Gr B w, w' = x.val) (fun a' => ∀ w', (∃ x : Gr B w, w' = x.val) → Q .normal a' w') l a) : (Code.region id l.toArray false).wp P Q a w :=
  wp_region_lit (wpList_of_quiet (C := fun w' => ∃ x : Gr B w, w' = x.val) (R := fun a' => ∀ w', (∃ x : Gr B w, w' = x.val) → Q .normal a' w') (fun a w' hw h => h w' hw) l a w ⟨⟨w, Below.refl _ _⟩, rfl⟩ h)
end Go.Proofs.Ytnihaaifkogpbaa
/- A request goes into the log. -/
namespace Go.Proofs.Ytnihaaifkogpbaa
open Go.ChangeShapes Go.WideShapes Go.ChangeAt Go.RowKit
set_option linter.unusedVariables false
section
variable {w : World} {base b bm c : Nat} {A : Option Addr} {ps : List Pr2} {f : Nat → Option Nat} {last : Nat} {begun : Bool} {m : Ms} {h : Hd}
set_option maxRecDepth 100000 in
set_option maxHeartbeats 1000000 in
theorem asks_late (hl : LogIn w base b A c bm ps f last true) (at' : Nat) (hlt : m.sq ≤ last) :
    Calls Try.prog 38 #[.pointer (some ⟨b, 0, none⟩), .int .i64 (at' : Int), .agg (msV m h)] w fun e w' => e = .returned (.int .i64 13) ∧ Below w.heap.size w w' := by
  have hd : decide (m.sq ≤ last) = true := by simpa using hlt
  have hd2 : decide ((m.sq : Int) ≤ (last : Int)) = true := by simp; omega
  clear hlt
  have hba := below1 w (.cells (msV m h) 40)
  have HB := Lib.hid hba
  have HK := Lib.hid (blk11 w 40 (msV m h))
  have HL1 := Lib.hid (hl.below hba)
  have HZ := Lib.hid hl.size
  have HBL := Lib.hid hl.blk.lt
  clear hba hl
  go_enter Try.func38, Try.ntmps38
  go_upto_region 1 with (fail)
  generalize World.alloc w _ = w0 at *
  have k2 := (show Blk w0 w.heap.size 40 (msV m h) from HK.out).cell 2
  have g2 := (show Blk w0 b 89 (logV A ps.length c bm last true) from HL1.out.blk).cell 2
  have g3 := (show Blk w0 b 89 (logV A ps.length c bm last true) from HL1.out.blk).cell 3
  go_quiet (fail)
  go_wp2_with fail
  go_ret
  exact ⟨rfl, HB.out.os, HB.out.tape, HB.out.output, HB.out.size, HB.out.block⟩
set_option maxRecDepth 100000 in
set_option maxHeartbeats 2000000 in
theorem asks_ok (hl : LogIn w base b A c bm ps f last begun) (at' : Nat) (hsq : m.sq ≤ 18446744073709551615) (hn : ps.length ≤ 1000) (hlt : begun = true → last < m.sq) :
    Calls Try.prog 38 #[.pointer (some ⟨b, 0, none⟩), .int .i64 (at' : Int), .agg (msV m h)] w fun e w' => e = .returned (.int .i64 0) ∧ (∃ A' c', LogIn w' base b A' c' bm (ps ++ [(at', -1)]) (fput f m.sq ps.length) m.sq true) ∧ Below base w w' := by
  have HLT := Lib.hid hlt
  clear hlt
  have hba := below1 w (.cells (msV m h) 40)
  have HB := Lib.hid hba
  have HK := Lib.hid (blk11 w 40 (msV m h))
  have HL1 := Lib.hid (hl.below hba)
  have HZ := Lib.hid hl.size
  have HBL := Lib.hid hl.blk.lt
  clear hba hl
  go_enter Try.func38, Try.ntmps38
  go_upto_region 1 with (fail)
  generalize World.alloc w _ = w0 at *
  have k2 := (show Blk w0 w.heap.size 40 (msV m h) from HK.out).cell 2
  have g2 := (show Blk w0 b 89 (logV A ps.length c bm last begun) from HL1.out.blk).cell 2
  have g3 := (show Blk w0 b 89 (logV A ps.length c bm last begun) from HL1.out.blk).cell 3
  go_cut [19] (fun s19 wx => s19 = .bool false ∧ Hid (Below w0.heap.size w0 wx))
  case first =>
    cases begun
    case false =>
      go_quiet (fail)
      go_wp2_with fail
      go_meet
      exact ⟨rfl, Lib.hid ⟨rfl, rfl, rfl, Nat.le_refl _, fun _ _ => rfl⟩⟩
    case true =>
      have hd : decide (m.sq ≤ last) = false := by have := HLT.out rfl; simp; omega
      have hd2 : decide ((m.sq : Int) ≤ (last : Int)) = false := by have := HLT.out rfl; simp; omega
      go_quiet (fail)
      go_wp2_with fail
      go_meet
      exact ⟨rfl, Lib.hid ⟨rfl, rfl, rfl, Nat.le_refl _, fun _ _ => rfl⟩⟩
  case rest =>
  obtain ⟨rfl, hbx⟩ := hcut
  have HBX := Lib.hid (stepB HB.out hbx.out)
  have HL2 := Lib.hid (HL1.out.below hbx.out)
  have HK2 : Hid (Blk wc w.heap.size 40 (msV m h)) := keepB (show Blk w0 w.heap.size 40 (msV m h) from HK.out) hbx.out
  clear hbx HLT k2 g2 g3
  go_upto_region 3 with (fail)
  have k2 : wc.cell? ⟨w.heap.size, 2, none⟩ = some (.int .u64 (m.sq : Int)) := (show Blk wc w.heap.size 40 (msV m h) from HK2.out).cell 2
  have g0 : wc.cell? ⟨b, 0, none⟩ = some (.slice A ps.length c) := (show Blk wc b 89 (logV A ps.length c bm last begun) from HL2.out.blk).cell 0
  have g1 : wc.cell? ⟨b, 1, none⟩ = some (.map (some bm)) := (show Blk wc b 89 (logV A ps.length c bm last begun) from HL2.out.blk).cell 1
  go_still_tail 11, (by kernel_rfl)
  change wpList _ _ _ _ _ wc.drew
  have hdr : Below wc.heap.size wc wc.drew := (Below.refl _ _).drew
  have HLD := Lib.hid (HL2.out.below hdr)
  have HKD : Hid (Blk wc.drew w.heap.size 40 (msV m h)) := keepB (show Blk wc w.heap.size 40 (msV m h) from HK2.out) hdr
  have HBD := Lib.hid (stepB HBX.out hdr)
  clear k2 g0 g1 hdr
  refine wpList_map_put rfl (.tmp 23) (.tmp 25) (.tmp 30) rfl HLD.out.map hsq (show ps.length ≤ 9223372036854775807 by omega) (by unfold maxLen; omega) rfl rfl rfl ?_
  intro w3 hm3 hg3
  have HM3 := Lib.hid hm3
  have HL3 : Hid (Blk w3 b 89 (logV A ps.length c bm last begun)) := Lib.hid (HLD.out.blk.grown hg3 (fun e => by injection e with e; exact map_ne HLD.out.blk HLD.out.map e))
  have HO3 := Lib.hid (HLD.out.own.kept hg3 (.inr (fun e => map_ne_row HLD.out.map HLD.out.own e.symm)))
  have HK3 : Hid (Blk w3 w.heap.size 40 (msV m h)) := Lib.hid ((show Blk wc.drew w.heap.size 40 (msV m h) from HKD.out).grown hg3 (fun e => by injection e with e; exact map_ne (show Blk wc.drew w.heap.size 40 (msV m h) from HKD.out) HLD.out.map e))
  have HB3 : Hid (Below base w w3) := Lib.hid ((HBD.out.mono HZ.out).grown hg3 (Nat.le_trans HZ.out HBD.out.size) (fun q hq => by injection hq with hq; have := HLD.out.bm0; omega))
  have hz3 : w.heap.size ≤ w3.heap.size := HB3.out.size
  have hb0 := HL2.out.b0
  have hbm0 := HL2.out.bm0
  clear hm3 hg3
  have g0 : w3.cell? ⟨b, 0, none⟩ = some (.slice A ps.length c) := (show Blk w3 b 89 (logV A ps.length c bm last begun) from HL3.out).cell 0
  have HOA := Lib.hid (HO3.out.alloc (.cells #[.int .i64 (at' : Int), .int .i64 (-1)] 92))
  have HBA : Hid (Below base w (w3.alloc (.cells #[.int .i64 (at' : Int), .int .i64 (-1)] 92))) := Lib.hid (HB3.out.alloc (by have := HZ.out; omega) _)
  have HLA : Hid (Blk (w3.alloc (.cells #[.int .i64 (at' : Int), .int .i64 (-1)] 92)) b 89 (logV A ps.length c bm last begun)) := Lib.hid ((show Blk w3 b 89 (logV A ps.length c bm last begun) from HL3.out).alloc _)
  have HKA : Hid (Blk (w3.alloc (.cells #[.int .i64 (at' : Int), .int .i64 (-1)] 92)) w.heap.size 40 (msV m h)) := Lib.hid ((show Blk w3 w.heap.size 40 (msV m h) from HK3.out).alloc _)
  have HMA := Lib.hid (HM3.out.below (below1 w3 (.cells #[.int .i64 (at' : Int), .int .i64 (-1)] 92)) HM3.out.lt)
  go_upto_region 5 with (at_builtin; refine wpList_app rfl (.tmp 35) (.tmp 38) _ rfl elemPr rfl HOA.out rfl (Src.pr w3 (at', -1) _) (by unfold maxLen; omega) (by omega) (by simp; have := HZ.out; omega) ?_; intro A2 c2 w4 ho4 hg4 hat4
                         have HO4 := Lib.hid ho4
                         have HB4 : Hid (Below base w w4) := Lib.hid (HBA.out.grown hg4 (by have := HZ.out; simp; omega) (fun q hq => (HOA.out.lt q hq).1))
                         have HL4 : Hid (Blk w4 b 89 (logV A ps.length c bm last begun)) := Lib.hid ((show Blk (w3.alloc (.cells #[.int .i64 (at' : Int), .int .i64 (-1)] 92)) b 89 (logV A ps.length c bm last begun) from HLA.out).grown hg4 (row_ne HLA.out HOA.out (by decide)))
                         have HK4 : Hid (Blk w4 w.heap.size 40 (msV m h)) := Lib.hid ((show Blk (w3.alloc (.cells #[.int .i64 (at' : Int), .int .i64 (-1)] 92)) w.heap.size 40 (msV m h) from HKA.out).grown hg4 (row_ne HKA.out HOA.out (by decide)))
                         have HM4 := Lib.hid (HMA.out.same (hg4.block bm HMA.out.lt (map_ne_row HMA.out HOA.out)))
                         have g40 : w4.cell? ⟨b, 0, none⟩ = some (.slice A ps.length c) := (show Blk w4 b 89 (logV A ps.length c bm last begun) from HL4.out).cell 0
                         have f40 := (show Blk w4 b 89 (logV A ps.length c bm last begun) from HL4.out).frozen 0
                         clear ho4 hg4 hat4)
  have HL5 : Hid (Blk (w4.setCell ⟨b, 0, none⟩ (.slice A2 (ps.length + 1) c2)) b 89 (logV A2 (ps.length + 1) c2 bm last begun)) := Lib.hid (HL4.out.put 0 (.slice A2 (ps.length + 1) c2))
  have HO5 := Lib.hid (HO4.out.kept (grown_setCell w4 ⟨b, 0, none⟩ (.slice A2 (ps.length + 1) c2)) (.inr (fun e => row_ne HL4.out HO4.out (by decide) e.symm)))
  have HM5 := Lib.hid (HM4.out.same (Below.heap_setCell w4 ⟨b, 0, none⟩ (.slice A2 (ps.length + 1) c2) bm (fun e => map_ne HL4.out HM4.out e.symm)))
  have HK5 : Hid (Blk (w4.setCell ⟨b, 0, none⟩ (.slice A2 (ps.length + 1) c2)) w.heap.size 40 (msV m h)) := Lib.hid (HK4.out.far (p := ⟨b, 0, none⟩) (fun e => by have h1 := HBL.out; have h2 : w.heap.size = b := e; omega) _)
  have HB5 := Lib.hid (HB4.out.setCell (p := ⟨b, 0, none⟩) hb0 (.slice A2 (ps.length + 1) c2))
  generalize World.setCell w4 _ _ = w5 at *
  clear g40 f40 g0
  have k2 : w5.cell? ⟨w.heap.size, 2, none⟩ = some (.int .u64 (m.sq : Int)) := (show Blk w5 w.heap.size 40 (msV m h) from HK5.out).cell 2
  have f2 := (show Blk w5 b 89 (logV A2 (ps.length + 1) c2 bm last begun) from HL5.out).frozen 2
  have f3 := (show Blk w5 b 89 (logV A2 (ps.length + 1) c2 bm last begun) from HL5.out).frozen 3
  have g2 := (show Blk w5 b 89 (logV A2 (ps.length + 1) c2 bm last begun) from HL5.out).cell 2
  have g3 := (show Blk w5 b 89 (logV A2 (ps.length + 1) c2 bm last begun) from HL5.out).cell 3
  have HL6 : Hid (Blk (w5.setCell ⟨b, 2, none⟩ (.int .u64 (m.sq : Int))) b 89 (logV A2 (ps.length + 1) c2 bm m.sq begun)) := Lib.hid (HL5.out.put 2 (.int .u64 (m.sq : Int)))
  have f63 := (show Blk (w5.setCell ⟨b, 2, none⟩ (.int .u64 (m.sq : Int))) b 89 (logV A2 (ps.length + 1) c2 bm m.sq begun) from HL6.out).frozen 3
  go_wp2_with fail
  go_ret
  have hL7 : Blk ((w5.setCell ⟨b, 2, none⟩ (.int .u64 (m.sq : Int))).setCell ⟨b, 3, none⟩ (.bool true)) b 89 (logV A2 (ps.length + 1) c2 bm m.sq true) := HL6.out.put 3 (.bool true)
  have hO6 := HO5.out.kept (grown_setCell w5 ⟨b, 2, none⟩ (.int .u64 (m.sq : Int))) (.inr (fun e => row_ne HL5.out HO5.out (by decide) e.symm))
  have hO7 := hO6.kept (grown_setCell _ ⟨b, 3, none⟩ (.bool true)) (.inr (fun e => row_ne HL6.out hO6 (by decide) e.symm))
  have hM6 := HM5.out.same (Below.heap_setCell w5 ⟨b, 2, none⟩ (.int .u64 (m.sq : Int)) bm (fun e => map_ne HL5.out HM5.out e.symm))
  have hM7 := hM6.same (Below.heap_setCell _ ⟨b, 3, none⟩ (.bool true) bm (fun e => map_ne HL6.out hM6 e.symm))
  refine ⟨rfl, ⟨A2, c2, hb0, hbm0, ?_, ?_, ?_, hsq⟩, (HB5.out.setCell (p := ⟨b, 2, none⟩) hb0 _).setCell (p := ⟨b, 3, none⟩) hb0 _⟩
  · rw [List.length_append]; exact hL7
  · rw [List.length_append, List.flatMap_append]; exact hO7
  · rw [List.length_append]; exact hM7
end
end Go.Proofs.Ytnihaaifkogpbaa
/- Whether a number was asked: slices.ContainsFunc over the log's pairs. -/
namespace Go.Proofs.Ytnihaaifkogpbaa
open Go.ChangeShapes Go.WideShapes Go.ChangeAt Go.RowKit
set_option linter.unusedVariables false
/-- What the literal has caught: the messages and the answer. -/
structure Caught (w : World) (D : Dom) (A : Option Addr) (n c : Nat) (l : List Ms) (gl ga s : Nat) : Prop where
  sl : rpMs.sl w D A n c l
  dom : ∀ k, D k → k < w.heap.size
  gl0 : w.cell? ⟨gl, 0, none⟩ = some (.slice A n c)
  gl1 : gl < w.heap.size
  ga0 : w.cell? ⟨ga, 2, none⟩ = some (.int .u64 (s : Int))
  ga1 : ga < w.heap.size
/-- Pairs that lie as cells. -/
def PrIn (w : World) (A : Option Addr) (n : Nat) (ps : List Pr2) : Prop :=
  ps.length = n ∧ ∀ (i : Nat) (x : Pr2), ps[i]? = some x → ∃ g, A = some ⟨g, 0, none⟩ ∧ g < w.heap.size ∧ w.cell? ⟨g, i * 2, none⟩ = some (.int .i64 (x.1 : Int)) ∧ w.cell? ⟨g, i * 2 + 1, none⟩ = some (.int .i64 x.2)
section
variable {w w' : World} {D : Dom} {A A' : Option Addr} {n c n' c' gl ga s k : Nat} {l : List Ms} {ps : List Pr2} {a : Int}
theorem Caught.below (h : Caught w D A n c l gl ga s) (hb : Below w.heap.size w w') : Caught w' D A n c l gl ga s :=
  ⟨Rp.sl_below h.sl hb h.dom, fun k hk => Nat.lt_of_lt_of_le (h.dom k hk) hb.size, (hb.cell (p := ⟨gl, 0, none⟩) h.gl1).trans h.gl0, Nat.lt_of_lt_of_le h.gl1 hb.size, (hb.cell (p := ⟨ga, 2, none⟩) h.ga1).trans h.ga0, Nat.lt_of_lt_of_le h.ga1 hb.size⟩
theorem PrIn.below (h : PrIn w A n ps) (hb : Below w.heap.size w w') : PrIn w' A n ps := ⟨h.1, fun i x hx => by
  obtain ⟨g, h1, h2, h3, h4⟩ := h.2 i x hx
  exact ⟨g, h1, Nat.lt_of_lt_of_le h2 hb.size, (hb.cell (p := ⟨g, i * 2, none⟩) h2).trans h3, (hb.cell (p := ⟨g, i * 2 + 1, none⟩) h2).trans h4⟩⟩
theorem prIn_own {base cc : Nat} (h : w.ownsRow base 92 2 (.slice A n cc) n (ps.flatMap pr2)) : PrIn w A n ps := by
  refine ⟨by have := h.1; rw [flat2_len] at this; omega, fun i x hx => ?_⟩
  have e0 := flat2_get ps i 0 (by omega)
  have e1 := flat2_get ps i 1 (by omega)
  rw [hx] at e0 e1
  obtain ⟨g, cur, h1, h2, h3, h4, _⟩ := row_cell h (show (ps.flatMap pr2)[i * 2 + 0]? = some (.int .i64 (x.1 : Int)) from e0)
  obtain ⟨g', cur', h1', h2', h3', h4', _⟩ := row_cell h (show (ps.flatMap pr2)[i * 2 + 1]? = some (.int .i64 x.2) from e1)
  rw [h1] at h1'
  injection h1' with h1'
  injection h1' with h1'
  subst h1'
  exact ⟨g, h1, h3.lt, by simpa using h4, h4'⟩
def eqSq (l : List Ms) (k s : Nat) : Bool := match l[k]? with | some m => m.sq == s | none => false
set_option maxRecDepth 100000 in
set_option maxHeartbeats 1000000 in
theorem ans1_any (h : Caught w D A n c l gl ga s) (hk : k < n) :
    Calls Try.prog 62 #[.agg #[.int .i64 (k : Int), .int .i64 a], .pointer (some ⟨gl, 0, none⟩), .pointer (some ⟨ga, 0, none⟩)] w fun e w' => e = .returned (.bool (eqSq l k s)) ∧ Below w.heap.size w w' := by
  have hb0 := below1 w (.cells #[.int .i64 (k : Int), .int .i64 a] 92)
  have HB := Lib.hid hb0
  have HK := Lib.hid (blk11 w 92 #[.int .i64 (k : Int), .int .i64 a])
  have HC := Lib.hid (h.below hb0)
  clear hb0 h
  obtain ⟨q, hq⟩ : ∃ q, eqSq l k s = q := ⟨_, rfl⟩
  rw [hq]
  have HQ := Lib.hid hq
  clear hq
  go_enter Try.func62, Try.ntmps62
  go_upto_region 1 with (fail)
  generalize World.alloc w _ = w0 at *
  have k0 := (show Blk w0 w.heap.size 92 _ from HK.out).cell 0
  have g0 := HC.out.gl0
  have g1 := HC.out.ga0
  have hkI : (0 : Int) ≤ (k : Int) := by omega
  have hkI2 : (k : Int) < (n : Int) := by omega
  obtain ⟨b, off, m, hd, rfl, _, hm, hin, hc⟩ := ms_at HC.out.sl HC.out.dom hk
  have m2 : w0.cell? ⟨b, off + k * 14 + 2, none⟩ = some (.int .u64 (m.sq : Int)) := hc 2 _ rfl
  have hd2 : ((m.sq : Int) == (s : Int)) = q := by
    rw [← HQ.out]
    unfold eqSq
    rw [hm]
    by_cases e : m.sq = s
    · simp [e]
    · have : ((m.sq : Int) == (s : Int)) = false := by simp; omega
      rw [this]
      symm
      simpa using e
  clear hm hin hc
  go_quiet (fail)
  go_wp2_with fail
  go_ret
  exact ⟨rfl, HB.out.os, HB.out.tape, HB.out.output, HB.out.size, HB.out.block⟩
/-- Whether one of the first k pairs has the number. -/
def AskIn (l : List Ms) (ps : List Pr2) (s k : Nat) : Prop := ∃ (p : Nat) (x : Pr2), p < k ∧ ps[p]? = some x ∧ eqSq l x.1 s = true
set_option maxRecDepth 100000 in
set_option maxHeartbeats 2000000 in
theorem afind_any (h : Caught w D A n c l gl ga s) (hp : PrIn w A' n' ps) (hk : ∀ x ∈ ps, x.1 < n) (hn : n' ≤ 1000) :
    Calls Try.prog 76 #[.slice A' n' c', .func (Fn.func 62) #[] #[.pointer (some ⟨gl, 0, none⟩), .pointer (some ⟨ga, 0, none⟩)]] w fun e w' => ∃ r : Int, e = .returned (.int .i64 r) ∧ (0 ≤ r ∧ AskIn l ps s n' ∨ r = -1 ∧ ¬ AskIn l ps s n') ∧ Below w.heap.size w w' := by
  have HC := Lib.hid h
  have HP := Lib.hid hp
  have HKK := Lib.hid hk
  clear h hp hk
  go_enter Try.func76, Try.ntmps76
  go_wp2_with fail
  go_loopw [8] (fun vi wr => ∃ k : Nat, k ≤ n' ∧ vi = .int .i64 k ∧ Hid (¬ AskIn l ps s k) ∧ Hid (Below w.heap.size w wr)) (fun vi _ => n' - (intOf vi).toNat)
  case atStart => exact ⟨0, Nat.zero_le _, rfl, fun ⟨_, _, h, _⟩ => absurd h (Nat.not_lt_zero _), Below.refl _ _⟩
  case round =>
    obtain ⟨k, hkn', rfl, hat, hbel⟩ := hrel
    have hzr := hbel.out.size
    by_cases hkn : k < n'
    case pos =>
      have hd : decide (k < n') = true := by simpa using hkn
      obtain ⟨x, hx⟩ : ∃ x, ps[k]? = some x := ⟨_, List.getElem?_eq_getElem (by have := HP.out.1; omega)⟩
      obtain ⟨g, hA', _, g0, g1⟩ := (HP.out.below hbel.out).2 k x hx
      subst hA'
      obtain ⟨xk, xa⟩ := x
      have hxn := HKK.out _ (List.mem_of_getElem? hx)
      have HX := Lib.hid hx
      have HCC := Lib.hid (ans1_any (a := xa) (HC.out.below hbel.out) hxn)
      have hkI : (0 : Int) ≤ (k : Int) := by omega
      have hkI2 : (k : Int) < (n' : Int) := by omega
      have z1 : wr.cell? ⟨g, 0 + k * 2, none⟩ = some (.int .i64 (xk : Int)) := by rw [Nat.zero_add]; exact g0
      have z2 : wr.cell? ⟨g, 0 + k * 2 + 1, none⟩ = some (.int .i64 xa) := by rw [Nat.zero_add]; exact g1
      simp only at g0 g1
      obtain ⟨q, hq⟩ : ∃ q, eqSq l xk s = q := ⟨_, rfl⟩
      rw [hq] at HCC
      have HQ := Lib.hid hq
      clear hx hxn hq
      go_wp2_with fail
      refine HCC.out.mono ?_; rintro e w1 ⟨rfl, hb1⟩
      have HB1 := Lib.hid (stepB hbel.out hb1)
      clear hb1 g0 g1 z1 z2
      cases q
      case true =>
        have HM : Hid (AskIn l ps s n') := ⟨k, _, hkn, HX.out, HQ.out⟩
        go_wp2_with fail
        go_ret
        exact ⟨(k : Int), rfl, .inl ⟨by omega, HM.out⟩, HB1.out⟩
      case false =>
        have HM : Hid (¬ AskIn l ps s (k + 1)) := fun ⟨p, y, h1, h2, h3⟩ => by
          rcases Nat.lt_or_ge p k with h4 | h4
          · exact hat.out ⟨p, y, h4, h2, h3⟩
          · obtain rfl : p = k := by omega
            rw [HX.out] at h2
            injection h2 with h2
            subst h2
            rw [HQ.out] at h3
            cases h3
        go_wp2_with fail
        go_roundw
        case rel => exact ⟨k + 1, hkn, by go_num, HM, HB1⟩
        case measure => simp [intOf]; omega
    case neg =>
      have hd : decide (k < n') = false := by simpa using hkn
      obtain rfl : k = n' := by omega
      go_wp2_with fail
      go_ret
      exact ⟨-1, rfl, .inr ⟨rfl, hat.out⟩, hbel.out⟩
set_option maxRecDepth 100000 in
set_option maxHeartbeats 1000000 in
theorem acont_any (h : Caught w D A n c l gl ga s) (hp : PrIn w A' n' ps) (hk : ∀ x ∈ ps, x.1 < n) (hn : n' ≤ 1000) :
    Calls Try.prog 61 #[.slice A' n' c', .func (Fn.func 62) #[] #[.pointer (some ⟨gl, 0, none⟩), .pointer (some ⟨ga, 0, none⟩)]] w fun e w' => e = .returned (.bool (dec (AskIn l ps s n'))) ∧ Below w.heap.size w w' := by
  have HF := Lib.hid (afind_any (c' := c') h hp hk hn)
  clear h hp hk
  go_enter Try.func61, Try.ntmps61
  go_wp2_with fail
  refine HF.out.mono ?_; rintro e w1 ⟨r, rfl, hr, hb⟩
  have HB := Lib.hid hb
  clear hb
  rcases hr with ⟨h1, h2⟩ | ⟨rfl, h2⟩
  · have hd : decide ((0 : Int) ≤ r) = true := by simpa using h1
    have HM := Lib.hid h2
    clear h2
    go_wp2_with fail
    go_ret
    exact ⟨by rw [dec_true HM.out]; rfl, HB.out⟩
  · have HM := Lib.hid h2
    clear h2
    go_wp2_with fail
    go_ret
    exact ⟨by rw [dec_false HM.out]; rfl, HB.out⟩
end
end Go.Proofs.Ytnihaaifkogpbaa
/- slices.Equal of numbers. -/
namespace Go.Proofs.Ytnihaaifkogpbaa
open Go.ChangeShapes Go.WideShapes Go.ChangeAt Go.RowKit
set_option linter.unusedVariables false
theorem eq64_any {D D' : Dom} {A A' : Option Addr} {n c n' c' : Nat} {l l' : List Nat} {w : World} (hs : rpU64.sl w D A n c l) (hs' : rpU64.sl w D' A' n' c' l') (hD : ∀ k, D k → k < w.heap.size) (hD' : ∀ k, D' k → k < w.heap.size) :
    Calls Try.prog 55 #[.slice A n c, .slice A' n' c'] w fun en w' => en = .returned (.bool (dec (l = l'))) ∧ Below w.heap.size w w' := by
  obtain ⟨hlen, hnc, hcm⟩ := Rp.sl_len hs
  obtain ⟨hlen', hnc', hcm'⟩ := Rp.sl_len hs'
  unfold maxLen at hcm hcm'
  have HL := Lib.hid hs
  have HL' := Lib.hid hs'
  have HN := Lib.hid hlen
  have HN' := Lib.hid hlen'
  have HD := Lib.hid hD
  have HD' := Lib.hid hD'
  clear hs hs' hlen hlen' hD hD'
  by_cases hne : n = n'
  case neg =>
    have hd : ((n : Int) != (n' : Int)) = true := by simp; omega
    rw [dec_false (fun h : l = l' => hne (by rw [← HN.out, ← HN'.out, h]))]
    clear hne
    go_enter Try.func55, Try.ntmps55
    go_wp2_with fail
    go_ret
    exact ⟨rfl, Below.refl _ _⟩
  subst hne
  go_enter Try.func55, Try.ntmps55
  go_wp2_with fail
  go_loopw [13] (fun i wr => ∃ k : Nat, k ≤ n ∧ i = .int .i64 k ∧ Hid (∀ (j : Nat), j < k → l[j]? = l'[j]?) ∧ Below w.heap.size w wr) (fun i _ => n - (intOf i).toNat)
  case atStart => exact ⟨0, by omega, rfl, fun j h => by omega, Below.refl _ _⟩
  case round =>
    obtain ⟨k, hk, rfl, hsh, hbr⟩ := hrel
    have HB := Lib.hid hbr
    by_cases hkn : k < n
    · obtain ⟨b, off, y, rfl, hb, hy, hc, hlt⟩ := u64_at (Rp.sl_below HL.out hbr HD.out) hkn
      obtain ⟨b', off', z, rfl, hb', hz, hc', hlt'⟩ := u64_at (Rp.sl_below HL'.out hbr HD'.out) hkn
      have hd : decide ((k : Int) < (n : Int)) = true := by simp; omega
      have hk0 : (0 : Int) ≤ (k : Int) := by omega
      have hk1 : (k : Int) < (n : Int) := by omega
      have HY := Lib.hid hy
      have HZ := Lib.hid hz
      clear hy hz hbr
      by_cases hyz : y = z
      · have hq : ((y : Int) != (z : Int)) = false := by simp; omega
        have HYZ := Lib.hid hyz
        clear hyz
        go_wp2_with fail
        go_quiet (fail)
        go_wp2_with fail
        go_roundw
        case rel =>
          refine ⟨k + 1, by omega, by go_num, fun j hj => ?_, HB.out.trans ⟨rfl, rfl, rfl, Nat.le_refl _, fun _ _ => rfl⟩⟩
          rcases Nat.lt_or_ge j k with h | h
          · exact hsh.out j h
          · obtain rfl : j = k := by omega
            rw [HY.out, HZ.out, HYZ.out]
        case measure => simp [intOf]; omega
      · have hq : ((y : Int) != (z : Int)) = true := by simp; omega
        have hno := Lib.hid (show ¬ l = l' from fun h => hyz (by have h1 := HY.out; rw [h, HZ.out] at h1; injection h1 with h1; exact h1.symm))
        clear hyz
        go_wp2_with fail
        go_quiet (fail)
        go_wp2_with fail
        go_ret
        rw [dec_false hno.out]
        exact ⟨rfl, HB.out.trans ⟨rfl, rfl, rfl, Nat.le_refl _, fun _ _ => rfl⟩⟩
    · obtain rfl : k = n := by omega
      have hd : decide ((k : Int) < (k : Int)) = false := by simp
      clear hbr
      go_wp2_with fail
      go_ret
      have hyes : l = l' := List.ext_getElem? (fun j => by
        rcases Nat.lt_or_ge j k with h | h
        · exact hsh.out j h
        · rw [List.getElem?_eq_none (by rw [HN.out]; exact h), List.getElem?_eq_none (by rw [HN'.out]; exact h)])
      rw [dec_true hyes]
      exact ⟨rfl, HB.out⟩
end Go.Proofs.Ytnihaaifkogpbaa
