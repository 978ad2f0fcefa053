/- PeekThreads: the walk. -/
import Derived.Test.YtcbmnfjbmkpfiaaPkTt
import Derived.Test.YtcbmnfjbmkpfiaaPkCi
import Derived.Test.YtcbmnfjbmkpfiaaPkV
import Derived.Test.YtcbmnfjbmkpfiaaPkW
import Derived.Test.YtcbmnfjbmkpfiaaPkK
namespace Go.Proofs.Ytcbmnfjbmkpfiaa
open Go.ChangeShapes Go.WideShapes Go.ChangeAt Go.RowKit
set_option linter.unusedVariables false
/-- What threading gives. -/
noncomputable def thX (ep b : Nat) (es : List Ent) (tl : List Lnk) : Nat × Nat × List Ent × List Lnk × Int := if dec (ThOk ep b es tl) then (ep, b, (thE b (bareL es) tl es.length).1, (thE b (bareL es) tl es.length).2, 0) else (0, 0, [], [], 3)
theorem th_form {w w' : World} {ep b n : Nat} {es : List Ent} {tl : List Lnk} {e : Ending} (h : ThreadIs w ep b n es tl e w') :
    ∃ A m c A2 m2 c2, e = .returned (.tuple #[.agg (batV (thX ep b es tl).1 (thX ep b es tl).2.1 A m c), .slice A2 m2 c2, .int .i64 (thX ep b es tl).2.2.2.2]) ∧ rpEnt.sl w' (fun k => k < w'.heap.size) A m c (thX ep b es tl).2.2.1 ∧ rpLnk.sl w' (fun k => k < w'.heap.size) A2 m2 c2 (thX ep b es tl).2.2.2.1 ∧ Below w.heap.size w w' := by
  obtain ⟨hb, ⟨h0, A', c', At', nt', ct', he, h1, h2⟩ | ⟨h0, he⟩⟩ := h
  · have e1 : thX ep b es tl = (ep, b, (thE b (bareL es) tl es.length).1, (thE b (bareL es) tl es.length).2, 0) := by unfold thX; rw [dec_true h0, if_pos rfl]
    rw [e1]
    exact ⟨A', n, c', At', nt', ct', he, h1, h2, hb⟩
  · have e1 : thX ep b es tl = (0, 0, [], [], 3) := by unfold thX; rw [dec_false h0]; rfl
    rw [e1]
    exact ⟨none, 0, 0, none, 0, 0, he, Rp.sl_nil _ _ _ _ _ (by decide), Rp.sl_nil _ _ _ _ _ (by decide), hb⟩
theorem ok_bd {ep b : Nat} {xs : List Ent} (h : BatOk ep b xs) (ht : totL xs ≤ 100000) : EBd xs ∧ CBd xs := by
  have h1 : ∀ e ∈ xs, e.1.length ≤ 16 ∧ (∀ x ∈ e.1, x.2.length ≤ 4) ∧ e.2.length ≤ 100000 := fun e he => by
    obtain ⟨i, hi⟩ := List.getElem?_of_mem he
    obtain ⟨g1, _, g3⟩ := h.2.2 i e hi
    refine ⟨g1, fun x hx => ?_, Nat.le_trans (tot_mem hi) ht⟩
    obtain ⟨k, hk⟩ := List.getElem?_of_mem hx
    exact (g3 k x (List.getElem?_eq_some_iff.1 hk).1 hk).1
  have h2 := h.2.1.2.1
  exact ⟨⟨by omega, fun e he => ⟨Nat.le_trans (h1 e he).1 (by decide), fun x hx => Nat.le_trans ((h1 e he).2.1 x hx) (by decide), Nat.le_trans (h1 e he).2.2 (by decide)⟩⟩,
    ⟨by omega, fun e he => ⟨Nat.le_trans (h1 e he).1 (by decide), fun x hx => Nat.le_trans ((h1 e he).2.1 x hx) (by decide)⟩⟩⟩
section
variable {D D' : Dom} {A At : Option Addr} {n c ep b nt ct : Nat} {es : List Ent} {tl : List Lnk} {w : World}
set_option maxRecDepth 100000 in
set_option maxHeartbeats 8000000 in
theorem peekThreads_any (hs : rpEnt.sl w D A n c es) (hD : ∀ k, D k → k < w.heap.size) (he : ep ≤ 18446744073709551615) (hb : b ≤ 18446744073709551615) (ht : rpLnk.sl w D' At nt ct tl) (hD' : ∀ k, D' k → k < w.heap.size) :
    Calls Try.prog 4 #[.agg (batV ep b A n c), .slice At nt ct] w fun e w' => e = .returned (.bool true) ∧ Below w.heap.size w w' := by
  have hb1 := below1 w (.cells (batV ep b A n c) 25)
  have HB1 := Lib.hid hb1
  have K1 := Lib.hid (blk11 w 25 (batV ep b A n c))
  have S1 := Lib.hid (keepS (show Sl rpEnt w D A n c es from ⟨hs, hD⟩) hb1)
  have L1 := Lib.hid (keepS (show Sl rpLnk w D' At nt ct tl from ⟨ht, hD'⟩) hb1)
  have HN := Lib.hid (Rp.sl_len hs).1
  have HHE := Lib.hid he
  have HHB := Lib.hid hb
  clear hs hD hb1 he hb ht hD'
  go_enter Try.func4, Try.ntmps4
  go_upto_region 1 with (fail)
  obtain ⟨gz, hgz⟩ : ∃ gz, gz = w.heap.size := ⟨_, rfl⟩
  rw [← hgz] at K1 ⊢
  clear hgz
  generalize World.alloc w _ = w1 at *
  have k0 := (show Blk w1 gz 25 (batV ep b A n c) from K1.out).cell 0
  have k1 := (show Blk w1 gz 25 (batV ep b A n c) from K1.out).cell 1
  have k2 := (show Blk w1 gz 25 (batV ep b A n c) from K1.out).cell 2
  have HLG := Lib.hid (blong_any (ep := ep) (b := b) S1.out.1 S1.out.2)
  go_wp2_with fail
  refine HLG.out.mono ?_; rintro e w2 ⟨r1, rfl, hr1, hb2⟩
  have HB2 := Lib.hid (stepB HB1.out hb2)
  have K2 := Lib.hid (keepB (show Blk w1 gz 25 (batV ep b A n c) from K1.out) hb2)
  have S2 := Lib.hid (keepS S1.out hb2)
  have L2 := Lib.hid (keepS L1.out hb2)
  clear hb2 k0 k1 k2
  cases r1
  case true =>
    clear hr1
    have HLV := Lib.hid (live26_any w2)
    go_wp2_with fail
    refine HLV.out.mono ?_; rintro e wz ⟨rfl, hbz⟩
    have HBZ := Lib.hid (stepB HB2.out hbz)
    clear hbz
    go_wp2_with fail
    go_ret
    exact ⟨rfl, HBZ.out⟩
  case false =>
  have BD := Lib.hid (hr1 rfl)
  clear hr1 K1 S1 L1 HB1 HLG
  have HLL := Lib.hid (llong_any L2.out.1 L2.out.2)
  go_wp2_with fail
  refine HLL.out.mono ?_; rintro e w3 ⟨r2, rfl, hr2, hb3⟩
  have HB3 := Lib.hid (stepB HB2.out hb3)
  have K3 := Lib.hid (keepB (show Blk w2 gz 25 (batV ep b A n c) from K2.out) hb3)
  have S3 := Lib.hid (keepS S2.out hb3)
  have L3 := Lib.hid (keepS L2.out hb3)
  clear hb3
  cases r2
  case true =>
    clear hr2
    have HLV := Lib.hid (live26_any w3)
    go_wp2_with fail
    refine HLV.out.mono ?_; rintro e wz ⟨rfl, hbz⟩
    have HBZ := Lib.hid (stepB HB3.out hbz)
    clear hbz
    go_wp2_with fail
    go_ret
    exact ⟨rfl, HBZ.out⟩
  case false =>
  have LB := Lib.hid (hr2 rfl)
  clear hr2 K2 S2 L2 HB2 HLL
  have HTK : Hid (TOk 1000 tl) := ⟨Nat.le_trans LB.out.1 (by decide), fun x hx => Nat.le_trans (LB.out.2 x hx) (by decide)⟩
  obtain ⟨⟨xe, xb, xs, ls, code⟩, hX⟩ : ∃ X, X = thX ep b es tl := ⟨_, rfl⟩
  have HX := Lib.hid hX
  clear hX
  have k0 := (show Blk w3 gz 25 (batV ep b A n c) from K3.out).cell 0
  have k1 := (show Blk w3 gz 25 (batV ep b A n c) from K3.out).cell 1
  have k2 := (show Blk w3 gz 25 (batV ep b A n c) from K3.out).cell 2
  have HT1 := Lib.hid (thread_any (ep := ep) (b := b) S3.out.1 S3.out.2 BD.out.ebd (Nat.le_trans BD.out.2 (by decide)) HHE.out HHB.out L3.out.1 L3.out.2 HTK.out)
  go_upto_region 4 with
    (go_at_call 14
     refine HT1.out.mono ?_
     rintro e w4 hth
     obtain ⟨Ax, nx, cx, Al, nl, cl, he, hx, hl, hb4⟩ := th_form hth
     rw [← HX.out] at he hx hl
     simp only at he hx hl
     subst he
     clear hth
     have hba := below1 w4 (.cells (batV xe xb Ax nx cx) 25)
     have HB5 := Lib.hid (stepB HB3.out (stepB hb4 hba))
     have K5 := Lib.hid (keepB (show Blk w3 gz 25 (batV ep b A n c) from K3.out) (stepB hb4 hba))
     have S5 := Lib.hid (keepS S3.out (stepB hb4 hba))
     have L5 := Lib.hid (keepS L3.out (stepB hb4 hba))
     have X5 := Lib.hid (keepS (show Sl rpEnt w4 _ Ax nx cx xs from ⟨hx, fun k hk => hk⟩) hba)
     have M5 := Lib.hid (keepS (show Sl rpLnk w4 _ Al nl cl ls from ⟨hl, fun k hk => hk⟩) hba)
     have KX := Lib.hid (blk11 w4 25 (batV xe xb Ax nx cx))
     clear hx hl hb4 hba k0 k1 k2)
  obtain ⟨gx, hgx⟩ : ∃ gx, gx = w4.heap.size := ⟨_, rfl⟩
  rw [← hgx] at KX ⊢
  clear hgx
  generalize World.alloc w4 _ = w5 at *
  clear HT1 K3 S3 L3 HB3
  have k0 := (show Blk w5 gz 25 (batV ep b A n c) from K5.out).cell 0
  have k1 := (show Blk w5 gz 25 (batV ep b A n c) from K5.out).cell 1
  have k2 := (show Blk w5 gz 25 (batV ep b A n c) from K5.out).cell 2
  have HT2 := Lib.hid (rthread_any (ep := ep) (b := b) S5.out.1 S5.out.2 BD.out.ebd (Nat.le_trans BD.out.2 (by decide)) HHE.out HHB.out L5.out.1 L5.out.2 HTK.out)
  go_upto_region 5 with
    (go_at_call 15
     refine HT2.out.mono ?_
     rintro e w6 hth
     obtain ⟨Ay, ny, cy, Am, nm, cm, he, hx, hl, hb6⟩ := th_form hth
     rw [← HX.out] at he hx hl
     simp only at he hx hl
     subst he
     clear hth
     have hba := below1 w6 (.cells (batV xe xb Ay ny cy) 25)
     have HB7 := Lib.hid (stepB HB5.out (stepB hb6 hba))
     have L7 := Lib.hid (keepS L5.out (stepB hb6 hba))
     have X7 := Lib.hid (keepS X5.out (stepB hb6 hba))
     have M7 := Lib.hid (keepS M5.out (stepB hb6 hba))
     have KX7 := Lib.hid (keepB (show Blk w5 gx 25 (batV xe xb Ax nx cx) from KX.out) (stepB hb6 hba))
     have Y7 := Lib.hid (keepS (show Sl rpEnt w6 _ Ay ny cy xs from ⟨hx, fun k hk => hk⟩) hba)
     have P7 := Lib.hid (keepS (show Sl rpLnk w6 _ Am nm cm ls from ⟨hl, fun k hk => hk⟩) hba)
     have KY := Lib.hid (blk11 w6 25 (batV xe xb Ay ny cy))
     clear hx hl hb6 hba k0 k1 k2)
  obtain ⟨gy, hgy⟩ : ∃ gy, gy = w6.heap.size := ⟨_, rfl⟩
  rw [← hgy] at KY ⊢
  clear hgy
  generalize World.alloc w6 _ = w7 at *
  clear HT2 K5 S5 L5 X5 M5 KX HB5
  have hcn : (code != code) = false := by simp
  have x0 := (show Blk w7 gx 25 (batV xe xb Ax nx cx) from KX7.out).cell 0
  have x1 := (show Blk w7 gx 25 (batV xe xb Ax nx cx) from KX7.out).cell 1
  have x2 := (show Blk w7 gx 25 (batV xe xb Ax nx cx) from KX7.out).cell 2
  have y0 := (show Blk w7 gy 25 (batV xe xb Ay ny cy) from KY.out).cell 0
  have y1 := (show Blk w7 gy 25 (batV xe xb Ay ny cy) from KY.out).cell 1
  have y2 := (show Blk w7 gy 25 (batV xe xb Ay ny cy) from KY.out).cell 2
  have hsm := bsame_any (ep := xe) (b := xb) (ep' := xe) (b' := xb) X7.out.1 Y7.out.1 X7.out.2 Y7.out.2
  rw [dec_true rfl] at hsm
  have HSM := Lib.hid hsm
  clear hsm
  go_wp2_with fail
  refine HSM.out.mono ?_; rintro e w8 ⟨rfl, hb8⟩
  have HB8 := Lib.hid (stepB HB7.out hb8)
  have L8 := Lib.hid (keepS L7.out hb8)
  have X8 := Lib.hid (keepS X7.out hb8)
  have M8 := Lib.hid (keepS M7.out hb8)
  have P8 := Lib.hid (keepS P7.out hb8)
  have KX8 := Lib.hid (keepB (show Blk w7 gx 25 (batV xe xb Ax nx cx) from KX7.out) hb8)
  have hls := lsame_any M8.out.1 P8.out.1 M8.out.2 P8.out.2
  rw [dec_true rfl] at hls
  have HLS := Lib.hid hls
  clear hb8 hls x0 x1 x2 y0 y1 y2 HSM KX7 KY X7 Y7 M7 P7 L7 HB7
  go_wp2_with fail
  refine HLS.out.mono ?_; rintro e w9 ⟨rfl, hb9⟩
  have HB9 := Lib.hid (stepB HB8.out hb9)
  have L9 := Lib.hid (keepS L8.out hb9)
  have X9 := Lib.hid (keepS X8.out hb9)
  have M9 := Lib.hid (keepS M8.out hb9)
  have KX9 := Lib.hid (keepB (show Blk w8 gx 25 (batV xe xb Ax nx cx) from KX8.out) hb9)
  clear hb9 HLS KX8 X8 M8 P8 L8 HB8 hcn
  obtain ⟨okT, hokT⟩ : ∃ o, dec (ThOk ep b es tl) = o := ⟨_, rfl⟩
  have HOKT := Lib.hid hokT
  have hXe := HX.out
  unfold thX at hXe
  rw [hokT] at hXe
  clear hokT
  cases okT
  case false =>
    simp only [Bool.false_eq_true, if_false, Prod.mk.injEq] at hXe
    obtain ⟨e1, e2, e3, e4, e5⟩ := hXe
    subst e1; subst e2; subst e3; subst e4; subst e5
    have HLV := Lib.hid (live26_any w9)
    go_wp2_with fail
    refine HLV.out.mono ?_; rintro e wz ⟨rfl, hbz⟩
    have HBZ := Lib.hid (stepB HB9.out hbz)
    clear hbz
    go_wp2_with fail
    go_ret
    exact ⟨rfl, HBZ.out⟩
  case true =>
    simp only [if_true, Prod.mk.injEq] at hXe
    obtain ⟨e1, e2, e3, e4, e5⟩ := hXe
    have e1' := e1.symm
    have e2' := e2.symm
    clear e1 e2
    subst e1'; subst e2'; subst e5
    have HOK : Hid (ThOk ep b es tl) := of_dec HOKT.out
    have HXS := Lib.hid e3
    have HLS := Lib.hid e4
    clear e3 e4 HOKT
    have HXOK : Hid (BatOk ep b xs) := by show BatOk _ _ _; rw [HXS.out]; exact HOK.out.2.2
    have HTOT : Hid (totL xs ≤ 100000) := by
      show _ ≤ _
      have h := thE_tot b (bareL es) tl
      rw [bare_len, bare_tot] at h
      rw [HXS.out, h]
      exact Nat.le_trans BD.out.2 (by decide)
    have HEB := Lib.hid (ok_bd HXOK.out HTOT.out)
    have HX2 : Hid ((ep, b, xs, ls, (0 : Int)) = thX ep b xs tl) := by
      have h := th_ok_again HOK.out
      rw [← HXS.out] at h
      show _ = _
      unfold thX
      rw [dec_true h.1, if_pos rfl, h.2, ← HXS.out, ← HLS.out]
    have HCH : Hid (chG ep b xs = true) := by show _ = _; rw [HXS.out]; exact th_chained HOK.out
    have x0 := (show Blk w9 gx 25 (batV ep b Ax nx cx) from KX9.out).cell 0
    have x1 := (show Blk w9 gx 25 (batV ep b Ax nx cx) from KX9.out).cell 1
    have x2 := (show Blk w9 gx 25 (batV ep b Ax nx cx) from KX9.out).cell 2
    have HT3 := Lib.hid (thread_any (ep := ep) (b := b) X9.out.1 X9.out.2 HEB.out.1 HTOT.out HHE.out HHB.out L9.out.1 L9.out.2 HTK.out)
    go_upto_region 10 with
      (go_at_call 14
       refine HT3.out.mono ?_
       rintro e w10 hth
       obtain ⟨Az, nz, cz, An, nn, cn, he, hx, hl, hb10⟩ := th_form hth
       rw [← HX2.out] at he hx hl
       simp only at he hx hl
       subst he
       clear hth
       have hba := below1 w10 (.cells (batV ep b Az nz cz) 25)
       have HB11 := Lib.hid (stepB HB9.out (stepB hb10 hba))
       have X11 := Lib.hid (keepS X9.out (stepB hb10 hba))
       have M11 := Lib.hid (keepS M9.out (stepB hb10 hba))
       have KX11 := Lib.hid (keepB (show Blk w9 gx 25 (batV ep b Ax nx cx) from KX9.out) (stepB hb10 hba))
       have Z11 := Lib.hid (keepS (show Sl rpEnt w10 _ Az nz cz xs from ⟨hx, fun k hk => hk⟩) hba)
       have N11 := Lib.hid (keepS (show Sl rpLnk w10 _ An nn cn ls from ⟨hl, fun k hk => hk⟩) hba)
       have KZ := Lib.hid (blk11 w10 25 (batV ep b Az nz cz))
       clear hx hl hb10 hba x0 x1 x2)
    obtain ⟨gw, hgw⟩ : ∃ gw, gw = w10.heap.size := ⟨_, rfl⟩
    rw [← hgw] at KZ ⊢
    clear hgw
    generalize World.alloc w10 _ = w11 at *
    clear HT3 KX9 X9 M9 L9 HB9
    have x0 := (show Blk w11 gx 25 (batV ep b Ax nx cx) from KX11.out).cell 0
    have x1 := (show Blk w11 gx 25 (batV ep b Ax nx cx) from KX11.out).cell 1
    have x2 := (show Blk w11 gx 25 (batV ep b Ax nx cx) from KX11.out).cell 2
    have hcg := chained_any (ep := ep) (b := b) X11.out.1 X11.out.2 HEB.out.2 HTOT.out HHE.out HHB.out
    rw [HCH.out] at hcg
    have HCG := Lib.hid hcg
    clear hcg
    go_wp2_with fail
    refine HCG.out.mono ?_; rintro e w12 ⟨rfl, hb12⟩
    have HB12 := Lib.hid (stepB HB11.out hb12)
    have X12 := Lib.hid (keepS X11.out hb12)
    have M12 := Lib.hid (keepS M11.out hb12)
    have Z12 := Lib.hid (keepS Z11.out hb12)
    have N12 := Lib.hid (keepS N11.out hb12)
    have KX12 := Lib.hid (keepB (show Blk w11 gx 25 (batV ep b Ax nx cx) from KX11.out) hb12)
    have KZ12 := Lib.hid (keepB (show Blk w11 gw 25 (batV ep b Az nz cz) from KZ.out) hb12)
    clear hb12 x0 x1 x2 HCG KX11 KZ X11 M11 Z11 N11 HB11
    have x0 := (show Blk w12 gx 25 (batV ep b Ax nx cx) from KX12.out).cell 0
    have x1 := (show Blk w12 gx 25 (batV ep b Ax nx cx) from KX12.out).cell 1
    have x2 := (show Blk w12 gx 25 (batV ep b Ax nx cx) from KX12.out).cell 2
    have z0 := (show Blk w12 gw 25 (batV ep b Az nz cz) from KZ12.out).cell 0
    have z1 := (show Blk w12 gw 25 (batV ep b Az nz cz) from KZ12.out).cell 1
    have z2 := (show Blk w12 gw 25 (batV ep b Az nz cz) from KZ12.out).cell 2
    have hsm := bsame_any (ep := ep) (b := b) (ep' := ep) (b' := b) Z12.out.1 X12.out.1 Z12.out.2 X12.out.2
    rw [dec_true rfl] at hsm
    have HSM := Lib.hid hsm
    clear hsm
    go_wp2_with fail
    refine HSM.out.mono ?_; rintro e w13 ⟨rfl, hb13⟩
    have HB13 := Lib.hid (stepB HB12.out hb13)
    have M13 := Lib.hid (keepS M12.out hb13)
    have N13 := Lib.hid (keepS N12.out hb13)
    have hls := lsame_any N13.out.1 M13.out.1 N13.out.2 M13.out.2
    rw [dec_true rfl] at hls
    have HLQ := Lib.hid hls
    clear hb13 hls x0 x1 x2 z0 z1 z2
    go_wp2_with fail
    refine HLQ.out.mono ?_; rintro e w14 ⟨rfl, hb14⟩
    have HB14 := Lib.hid (stepB HB13.out hb14)
    have HLV := Lib.hid (live26_any w14)
    clear hb14
    go_wp2_with fail
    refine HLV.out.mono ?_; rintro e wz ⟨rfl, hbz⟩
    have HBZ := Lib.hid (stepB HB14.out hbz)
    clear hbz
    go_wp2_with fail
    go_ret
    exact ⟨rfl, HBZ.out⟩
end
end Go.Proofs.Ytcbmnfjbmkpfiaa
