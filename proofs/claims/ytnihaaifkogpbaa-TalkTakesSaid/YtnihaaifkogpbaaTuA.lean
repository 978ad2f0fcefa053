/- A unit answers a Take. -/
import Derived.Test.YtnihaaifkogpbaaTuD
namespace Go.Proofs.Ytnihaaifkogpbaa
open Go.ChangeShapes Go.WideShapes Go.ChangeAt Go.RowKit
set_option linter.unusedVariables false
abbrev hdZa : Hd := ⟨none, 0, 0, none, 0, 0, none, 0, 0, none, 0, 0⟩
/-- The answer to a Take, ahead of its links. -/
abbrev ansZ (q : Ms) : Ms := ⟨0, q.ep, q.sq, 0, 0, 0, [], [], [], (0, 0, 0), (0, [])⟩
abbrev ansT (q : Ms) (nx : Nat) (T : List Lnk) : Ms := ⟨12, q.ep, q.sq, nx, 0, 0, [], q.ss.map (fun s => (s, bk T s)), [], (0, 0, 0), (0, [])⟩
section
variable {D : Dom} {A At : Option Addr} {nt ct gu nd ep tl nx tb M : Nat} {gm pj : Value} {T : List Lnk} {q : Ms} {h : Hd} {w : World}
set_option maxRecDepth 100000 in
set_option maxHeartbeats 8000000 in
theorem ansTake_any (hu : Blk w gu 60 (unV nd ep false gm tl pj nx At nt ct)) (ho : OLk w tb At nt ct T) (hT : TkOk M T) (hM : M ≤ 80000) (htb : tb ≤ w.heap.size)
    (hq : MsIn w D q h) (hDg : ∀ k, D k → ¬ (k = gu)) (hc2 : q.ct ≤ 65536) (hnx : (nx : Int) + q.ct ≤ 4611686018427387904) (hkd : q.kd = 6) (hqe : q.ep = ep) (hok : MOk q) (hn16 : q.ss.length ≤ 16) (hc1 : 1 ≤ q.ct) :
    Calls Try.prog 7 #[.pointer (some ⟨gu, 0, none⟩), .agg (msV q h)] w fun e w' => ∃ h', e = .returned (.tuple #[.agg (msV (ansT q nx T) h'), .int .i64 0]) ∧ OLk w' w.heap.size h'.A2 h'.n2 h'.c2 (q.ss.map fun s => (s, bk T s)) ∧
      (∃ At' nt' ct', Blk w' gu 60 (unV nd ep false gm tl pj (nx + q.ct.toNat) At' nt' ct') ∧ OLk w' tb At' nt' ct' (tkK (nx + q.ct.toNat - min q.ct.toNat 4) T q.ss (min q.ct.toNat 4))) ∧ Chg (fun k => k = gu) w w' := by
  have hb2 := below2 w (.cells (msV q h) 40) (.cells msZ 40)
  have HB2 := Lib.hid hb2
  have K1 := Lib.hid (blk21 w 40 40 (msV q h) msZ)
  have K2 := Lib.hid (blk22 w 40 40 (msV q h) msZ)
  have U2 := Lib.hid (keepB hu hb2)
  have O2 := Lib.hid (OL.below ho hb2)
  have Q2 := Lib.hid (hq.below hb2)
  have HTK := Lib.hid hT
  have HTB := Lib.hid htb
  have HDG := Lib.hid hDg
  have HQD := Lib.hid hq.dom
  have HUL := Lib.hid hu.lt
  have HEP : Hid (EOk ep) := by show EOk ep; rw [← hqe]; exact hok.2
  have HC1 := Lib.hid hc1
  have HC2 := Lib.hid hc2
  have HNX := Lib.hid hnx
  have HKD := Lib.hid hkd
  have HQE := Lib.hid hqe
  have H16 := Lib.hid hn16
  have HOK := Lib.hid hok
  have HSZ : Hid ((Try.prog.info? 40).map (·.size) = some 14) := by show _ = _; kernel_rfl
  have hep := hq.ep1
  have hsq := hq.sq1
  clear hu ho hT htb hq hDg hb2 hc1 hc2 hnx hkd hqe hn16 hok
  go_enter Try.func7, Try.ntmps7
  go_upto_region 1 with (fail)
  obtain ⟨gz, hgz⟩ : ∃ gz, gz = w.heap.size := ⟨_, rfl⟩
  rw [← hgz] at K1 K2 ⊢
  have HGZ := Lib.hid hgz
  clear hgz
  generalize World.alloc (World.alloc w _) _ = w2 at *
  have q0 := (show Blk w2 gz 40 (msV q h) from K1.out).cell 0
  have q1 := (show Blk w2 gz 40 (msV q h) from K1.out).cell 1
  have q2 := (show Blk w2 gz 40 (msV q h) from K1.out).cell 2
  have q3 := (show Blk w2 gz 40 (msV q h) from K1.out).cell 3
  have q4 := (show Blk w2 gz 40 (msV q h) from K1.out).cell 4
  have q5 := (show Blk w2 gz 40 (msV q h) from K1.out).cell 5
  have q6 := (show Blk w2 gz 40 (msV q h) from K1.out).cell 6
  have q7 := (show Blk w2 gz 40 (msV q h) from K1.out).cell 7
  have q8 := (show Blk w2 gz 40 (msV q h) from K1.out).cell 8
  have q9 := (show Blk w2 gz 40 (msV q h) from K1.out).cell 9
  have q10 := (show Blk w2 gz 40 (msV q h) from K1.out).cell 10
  have q11 := (show Blk w2 gz 40 (msV q h) from K1.out).cell 11
  have q12 := (show Blk w2 gz 40 (msV q h) from K1.out).cell 12
  have q13 := (show Blk w2 gz 40 (msV q h) from K1.out).cell 13
  have hmr := mright_any Q2.out
  rw [dec_true HOK.out] at hmr
  have HMR := Lib.hid hmr
  clear hmr
  go_wp2_with fail
  refine HMR.out.mono ?_; rintro e w3 ⟨rfl, hb3⟩
  have HB3 := Lib.hid (stepB HB2.out hb3)
  have K13 := Lib.hid (keepB (show Blk w2 gz 40 (msV q h) from K1.out) hb3)
  have K23 := Lib.hid (keepB (show Blk w2 (gz + 1) 40 msZ from K2.out) hb3)
  have U3 := Lib.hid (keepB (show Blk w2 gu 60 (unV nd ep false gm tl pj nx At nt ct) from U2.out) hb3)
  have O3 := Lib.hid (OL.below O2.out hb3)
  have Q3 := Lib.hid (Q2.out.below hb3)
  clear hb3 K1 K2 U2 O2 Q2 HB2 q0 q1 q2 q3 q4 q5 q6 q7 q8 q9 q10 q11 q12 q13
  have r0 : w3.cell? ⟨gz, 0, none⟩ = some (.int .i64 6) := by
    have hh := (show Blk w3 gz 40 (msV q h) from K13.out).cell 0
    rw [← HKD.out]; exact hh
  have hrq := krequest_any 6 w3
  have hre : (Kd.an 6 != 0) = true := by decide +kernel
  rw [hre] at hrq
  have HRQ := Lib.hid hrq
  clear hrq hre
  go_wp2_with fail
  refine HRQ.out.mono ?_; rintro e w4 ⟨rfl, hb4⟩
  have HB4 := Lib.hid (stepB HB3.out hb4)
  have K14 := Lib.hid (keepB (show Blk w3 gz 40 (msV q h) from K13.out) hb4)
  have K24 := Lib.hid (keepB (show Blk w3 (gz + 1) 40 msZ from K23.out) hb4)
  have U4 := Lib.hid (keepB (show Blk w3 gu 60 (unV nd ep false gm tl pj nx At nt ct) from U3.out) hb4)
  have O4 := Lib.hid (OL.below O3.out hb4)
  have Q4 := Lib.hid (Q3.out.below hb4)
  clear hb4 K13 K23 U3 O3 Q3 HB3 r0
  have q1 := (show Blk w4 gz 40 (msV q h) from K14.out).cell 1
  have q2 := (show Blk w4 gz 40 (msV q h) from K14.out).cell 2
  have hb5 := below1 w4 (.cells (msV (ansZ q) hdZa) 40)
  have HB5 := Lib.hid (stepB HB4.out hb5)
  have KA5 := Lib.hid (blk11 w4 40 (msV (ansZ q) hdZa))
  have K15 := Lib.hid (keepB (show Blk w4 gz 40 (msV q h) from K14.out) hb5)
  have K25 := Lib.hid (keepB (show Blk w4 (gz + 1) 40 msZ from K24.out) hb5)
  have U5 := Lib.hid (keepB (show Blk w4 gu 60 (unV nd ep false gm tl pj nx At nt ct) from U4.out) hb5)
  have O5 := Lib.hid (OL.below O4.out hb5)
  have Q5 := Lib.hid (Q4.out.below hb5)
  have HZ4 := Lib.hid (show Blk w4 (gz + 1) 40 _ from K24.out).lt
  clear hb5
  go_upto_region 8 with (fail)
  obtain ⟨ga, hga⟩ : ∃ ga, ga = w4.heap.size := ⟨_, rfl⟩
  rw [← hga] at KA5 HZ4 ⊢
  have HGA := Lib.hid hga
  have HZW := Lib.hid HB4.out.size
  clear hga q1 q2 K14 K24 U4 O4 Q4
  generalize World.alloc w4 _ = w5 at *
  have HGAW : Hid (w.heap.size ≤ ga) := by show _ ≤ ga; rw [HGA.out]; exact HZW.out
  have HDO := Lib.hid (doesTake_any U5.out O5.out HTK.out hM (Nat.le_trans HTB.out HB5.out.size) KA5.out ⟨rfl, rfl, rfl⟩ Q5.out (fun k hk e => by rcases e with e | e; exact HDG.out k hk e; have h1 := HQD.out k hk; have := HGAW.out; omega) H16.out HC1.out HC2.out HNX.out HKD.out HQE.out HEP.out)
  have q0 := (show Blk w5 gz 40 (msV q h) from K15.out).cell 0
  have q1 := (show Blk w5 gz 40 (msV q h) from K15.out).cell 1
  have q2 := (show Blk w5 gz 40 (msV q h) from K15.out).cell 2
  have q3 := (show Blk w5 gz 40 (msV q h) from K15.out).cell 3
  have q4 := (show Blk w5 gz 40 (msV q h) from K15.out).cell 4
  have q5 := (show Blk w5 gz 40 (msV q h) from K15.out).cell 5
  have q6 := (show Blk w5 gz 40 (msV q h) from K15.out).cell 6
  have q7 := (show Blk w5 gz 40 (msV q h) from K15.out).cell 7
  have q8 := (show Blk w5 gz 40 (msV q h) from K15.out).cell 8
  have q9 := (show Blk w5 gz 40 (msV q h) from K15.out).cell 9
  have q10 := (show Blk w5 gz 40 (msV q h) from K15.out).cell 10
  have q11 := (show Blk w5 gz 40 (msV q h) from K15.out).cell 11
  have q12 := (show Blk w5 gz 40 (msV q h) from K15.out).cell 12
  have q13 := (show Blk w5 gz 40 (msV q h) from K15.out).cell 13
  go_wp2_with fail
  refine HDO.out.mono ?_; rintro e w6 ⟨rfl, h6u, h6a, h6c⟩
  obtain ⟨At', nt', ct', h6u1, h6u2⟩ := h6u
  obtain ⟨Al, nl, cl, h6a1, h6a2⟩ := h6a
  have KA6 : Hid (Blk w6 ga 40 (msV (ansT q nx T) { hdZa with A2 := Al, n2 := nl, c2 := cl })) := h6a1
  have HU6 := Lib.hid h6u1
  have HO6 := Lib.hid h6u2
  have HL6 := Lib.hid h6a2
  have HC6 := Lib.hid ((Chg.of_pure HB5.out (fun k => k = gu ∨ k = ga)).trans h6c)
  have K26 := Lib.hid (chB (show Blk w5 (gz + 1) 40 msZ from K25.out) h6c (fun e => by rcases e with e | e; have := HGZ.out; have := HUL.out; omega; have := HZ4.out; omega))
  have hnl : nl ≤ 16 := by have h1 := h6a2.len; rw [List.length_map] at h1; have := H16.out; omega
  clear h6u1 h6u2 h6a1 h6a2 h6c q0 q1 q2 q3 q4 q5 q6 q7 q8 q9 q10 q11 q12 q13 K15 K25 U5 O5 Q5 KA5
  have HMC := Lib.hid (mcopy_any (D := fun k => k < w6.heap.size) (m := ansT q nx T) (h := { hdZa with A2 := Al, n2 := nl, c2 := cl }) (w := w6) (Rp.sl_nil _ _ _ _ _ (Nat.zero_le _)) (OL.sl HL6.out) (Rp.sl_nil _ _ _ _ _ (Nat.zero_le _)) (fun k hk => hk) rfl (Nat.zero_le _) (show nl ≤ 100000 by omega) (Nat.zero_le _) (fun x hx => by
    obtain ⟨s, _, rfl⟩ := List.mem_map.1 hx
    have := HTK.out.bkl s
    show (bk T s).length ≤ 1000000
    omega))
  have a0 := (show Blk w6 ga 40 (msV (ansT q nx T) { hdZa with A2 := Al, n2 := nl, c2 := cl }) from KA6.out).cell 0
  have a1 := (show Blk w6 ga 40 (msV (ansT q nx T) { hdZa with A2 := Al, n2 := nl, c2 := cl }) from KA6.out).cell 1
  have a2 := (show Blk w6 ga 40 (msV (ansT q nx T) { hdZa with A2 := Al, n2 := nl, c2 := cl }) from KA6.out).cell 2
  have a3 := (show Blk w6 ga 40 (msV (ansT q nx T) { hdZa with A2 := Al, n2 := nl, c2 := cl }) from KA6.out).cell 3
  have a4 := (show Blk w6 ga 40 (msV (ansT q nx T) { hdZa with A2 := Al, n2 := nl, c2 := cl }) from KA6.out).cell 4
  have a5 := (show Blk w6 ga 40 (msV (ansT q nx T) { hdZa with A2 := Al, n2 := nl, c2 := cl }) from KA6.out).cell 5
  have a6 := (show Blk w6 ga 40 (msV (ansT q nx T) { hdZa with A2 := Al, n2 := nl, c2 := cl }) from KA6.out).cell 6
  have a7 := (show Blk w6 ga 40 (msV (ansT q nx T) { hdZa with A2 := Al, n2 := nl, c2 := cl }) from KA6.out).cell 7
  have a8 := (show Blk w6 ga 40 (msV (ansT q nx T) { hdZa with A2 := Al, n2 := nl, c2 := cl }) from KA6.out).cell 8
  have a9 := (show Blk w6 ga 40 (msV (ansT q nx T) { hdZa with A2 := Al, n2 := nl, c2 := cl }) from KA6.out).cell 9
  have a10 := (show Blk w6 ga 40 (msV (ansT q nx T) { hdZa with A2 := Al, n2 := nl, c2 := cl }) from KA6.out).cell 10
  have a11 := (show Blk w6 ga 40 (msV (ansT q nx T) { hdZa with A2 := Al, n2 := nl, c2 := cl }) from KA6.out).cell 11
  have a12 := (show Blk w6 ga 40 (msV (ansT q nx T) { hdZa with A2 := Al, n2 := nl, c2 := cl }) from KA6.out).cell 12
  have a13 := (show Blk w6 ga 40 (msV (ansT q nx T) { hdZa with A2 := Al, n2 := nl, c2 := cl }) from KA6.out).cell 13
  go_wp2_with
    (first
     | (go_at_call 20
        refine HMC.out.mono ?_
        rintro e w7 hmc
        obtain ⟨h', rfl, _, _, _, _, h7l, _, _, _, _, hb7⟩ := hmc
        have HL7 := Lib.hid h7l
        have HU7 := Lib.hid (keepB HU6.out hb7)
        have HO7 := Lib.hid (OL.below HO6.out hb7)
        have HC7 := Lib.hid (HC6.out.trans (Chg.of_pure hb7 _))
        have K27 := Lib.hid (keepB (show Blk w6 (gz + 1) 40 msZ from K26.out) hb7)
        clear h7l hb7)
     | (refine wpList_put_row rfl 40 (.tmp 4) (.tmp 41) rfl (gz + 1) (msV (ansT q nx T) h') rfl rfl 40 _ K27.out HSZ.out rfl (by simp [Value.oneCell']) ?_; intro w9 hblk hgr))
  try rw [Exit.noGoto_ret]
  have x0 := (show Blk w9 (gz + 1) 40 (msV (ansT q nx T) h') from hblk).cell 0
  have x1 := (show Blk w9 (gz + 1) 40 (msV (ansT q nx T) h') from hblk).cell 1
  have x2 := (show Blk w9 (gz + 1) 40 (msV (ansT q nx T) h') from hblk).cell 2
  have x3 := (show Blk w9 (gz + 1) 40 (msV (ansT q nx T) h') from hblk).cell 3
  have x4 := (show Blk w9 (gz + 1) 40 (msV (ansT q nx T) h') from hblk).cell 4
  have x5 := (show Blk w9 (gz + 1) 40 (msV (ansT q nx T) h') from hblk).cell 5
  have x6 := (show Blk w9 (gz + 1) 40 (msV (ansT q nx T) h') from hblk).cell 6
  have x7 := (show Blk w9 (gz + 1) 40 (msV (ansT q nx T) h') from hblk).cell 7
  have x8 := (show Blk w9 (gz + 1) 40 (msV (ansT q nx T) h') from hblk).cell 8
  have x9 := (show Blk w9 (gz + 1) 40 (msV (ansT q nx T) h') from hblk).cell 9
  have x10 := (show Blk w9 (gz + 1) 40 (msV (ansT q nx T) h') from hblk).cell 10
  have x11 := (show Blk w9 (gz + 1) 40 (msV (ansT q nx T) h') from hblk).cell 11
  have x12 := (show Blk w9 (gz + 1) 40 (msV (ansT q nx T) h') from hblk).cell 12
  have x13 := (show Blk w9 (gz + 1) 40 (msV (ansT q nx T) h') from hblk).cell 13
  have u9 := HU7.out.grown hgr (fun e => by have e' : gu = gz + 1 := Option.some.inj e; have := HGZ.out; have := HUL.out; omega)
  have o9 := OL.grown HO7.out (show Blk w7 (gz + 1) 40 msZ from K27.out) (fun h => h) (by unfold T64; decide) (by decide) hgr
  have l9 := OL.grown HL7.out (show Blk w7 (gz + 1) 40 msZ from K27.out) (fun h => h) (by unfold T64; decide) (by decide) hgr
  have c9 := chGrown HC7.out hgr (fun k hk => by have e' : gz + 1 = k := Option.some.inj hk; have := HGZ.out; omega)
  refine bodyPost_ret (v := .tuple #[.agg (msV (ansT q nx T) h'), .int .i64 0]) (by simp [results, Try.results7, go_sem, x0, x1, x2, x3, x4, x5, x6, x7, x8, x9, x10, x11, x12, x13]) rfl ⟨h', rfl, OL.mono l9 HC6.out.size, ⟨At', nt', ct', u9, o9⟩, c9.more (fun k hk e => by rcases e with e | e; exact e; have := HGAW.out; omega)⟩
end
end Go.Proofs.Ytnihaaifkogpbaa
