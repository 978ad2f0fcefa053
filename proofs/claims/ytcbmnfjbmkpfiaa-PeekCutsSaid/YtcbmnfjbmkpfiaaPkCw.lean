/- PeekCuts: the walk. -/
import Derived.Test.YtcbmnfjbmkpfiaaPkCr
import Derived.Test.YtcbmnfjbmkpfiaaPkO
import Derived.Test.YtcbmnfjbmkpfiaaPkQ
import Derived.Test.YtcbmnfjbmkpfiaaPkV
import Derived.Test.YtcbmnfjbmkpfiaaPkW
namespace Go.Proofs.Ytcbmnfjbmkpfiaa
open Go.ChangeShapes Go.WideShapes Go.ChangeAt Go.RowKit
set_option linter.unusedVariables false
theorem run_cutV {α : Type} {P : Program} {T e : TypeId} {size bytes : Nat} {r : Rp α} {w : World} {D : Dom} {A : Option Addr} {n c : Nat} {l : List α} (E : Elem P T e size bytes) (h : r.sl w D A n c l) (hs : r.size = size) (lo hi : Nat) (h1 : lo ≤ hi) (h2 : hi ≤ n) :
    ∃ A', (∀ w', (Instr.slice T (.slice A n c) (some (.int .u64 (lo : Int))) (some (.int .u64 (hi : Int))) none).run P w' = .ok (.slice A' (hi - lo) (c - lo)) w') ∧ ∀ w2 D2, r.sl w2 D2 A n c l → r.sl w2 D2 A' (hi - lo) (c - lo) ((l.take hi).drop lo) := by
  obtain ⟨hlen, hnc, hcm⟩ := Rp.sl_len h
  refine ⟨_, fun w' => ?_, fun w2 D2 h => Rp.cut h h1 h2 (by omega) (Nat.le_refl c)⟩
  rw [run_slice_lh w' T A n c (by rw [E.elem]; exact E.ht) .u64 .u64 (lo : Int) (hi : Int) (by omega) (by omega) (by omega), E.elem, E.sizeOf, hs]
  rfl
theorem BBd.cbd {es : List Ent} (h : BBd es) : CBd es := ⟨h.1.1, fun e he => ⟨(h.1.2 e he).1.1, fun x hx => Nat.le_trans ((h.1.2 e he).1.2 x hx) (by decide)⟩⟩
theorem CBd.sub {es es2 : List Ent} (h : CBd es) (hl : es2.length ≤ es.length) (hs : ∀ e ∈ es2, e ∈ es) : CBd es2 := ⟨Nat.le_trans hl h.1, fun e he => h.2 e (hs e he)⟩
theorem lkB_shift (b d : Nat) : ∀ (i : Nat) (es : List Ent), lkB b (d + i) es = lkB (b + d) i es
  | _, [] => rfl
  | i, e :: es => by
    rw [lkB, lkB, show d + i + 1 = d + (i + 1) by omega, lkB_shift b d (i + 1) es]
    have : posN b (d + i) = posN (b + d) i := by unfold posN; rw [show b + (d + i) = b + d + i by omega]
    rw [this]
theorem cut_len {b fr tt : Nat} {es : List Ent} (h : b ≤ fr) (h2 : fr < tt) (h3 : tt ≤ b + es.length) : ((es.take (tt - b)).drop (fr - b)).length = tt - fr := by
  rw [List.length_drop, List.length_take]; omega
/-- What is cut out of a chained one is chained. -/
theorem cut_chained {ep b fr tt : Nat} {es : List Ent} (h : CutOk ep b es fr tt) (hc : chG ep b es = true) : chG ep fr ((es.take (tt - b)).drop (fr - b)) = true := by
  obtain ⟨h1, h2, h3, h4⟩ := h
  obtain ⟨_, hk⟩ := chG_iff.1 hc
  refine chG_iff.2 ⟨?_, ?_⟩
  · have := bat_drop (k := fr - b) (bat_take (k := tt - b) h1 (by omega) (by omega)) (by rw [List.length_take]; omega)
    rwa [show b + (fr - b) = fr by omega] at this
  · have e : es = es.take (fr - b) ++ (es.take (tt - b)).drop (fr - b) ++ es.drop (tt - b) := by
      have e1 : (es.take (tt - b)).take (fr - b) = es.take (fr - b) := by rw [List.take_take, Nat.min_eq_left (by omega)]
      rw [← e1, List.take_append_drop, List.take_append_drop]
    rw [e, lkB_app, lkB_app] at hk
    have h5 := ChOk.inf hk
    have e2 : (es.take (fr - b)).length = fr - b := by rw [List.length_take]; omega
    rw [e2, show 0 + (fr - b) = fr - b + 0 by omega, lkB_shift, show b + (fr - b) = fr by omega] at h5
    exact h5
section
variable {D : Dom} {A : Option Addr} {n c ep b fr tt : Nat} {es : List Ent} {w : World}
set_option maxRecDepth 100000 in
set_option maxHeartbeats 8000000 in
theorem peekCuts_any (hs : rpEnt.sl w D A n c es) (hD : ∀ k, D k → k < w.heap.size) (he : ep ≤ 18446744073709551615) (hb : b ≤ 18446744073709551615) (hfr : fr ≤ 18446744073709551615) (htt : tt ≤ 18446744073709551615) :
    Calls Try.prog 5 #[.agg (batV ep b A n c), .int .u64 (fr : Int), .int .u64 (tt : Int)] w fun e w' => e = .returned (.bool true) ∧ Below w.heap.size w w' := by
  have hb1 := below1 w (.cells (batV ep b A n c) 25)
  have HB1 := Lib.hid hb1
  have K1 := Lib.hid (blk11 w 25 (batV ep b A n c))
  have S1 := Lib.hid (keepS (show Sl rpEnt w D A n c es from ⟨hs, hD⟩) hb1)
  have HN := Lib.hid (Rp.sl_len hs).1
  have HHE := Lib.hid he
  have HHB := Lib.hid hb
  have HFR := Lib.hid hfr
  have HTT := Lib.hid htt
  clear hs hD hb1 he hb hfr htt
  go_enter Try.func5, Try.ntmps5
  go_upto_region 1 with (fail)
  obtain ⟨gz, hgz⟩ : ∃ gz, gz = w.heap.size := ⟨_, rfl⟩
  rw [← hgz] at K1 ⊢
  clear hgz
  generalize World.alloc w _ = w1 at *
  have k0 := (show Blk w1 gz 25 (batV ep b A n c) from K1.out).cell 0
  have k1 := (show Blk w1 gz 25 (batV ep b A n c) from K1.out).cell 1
  have k2 := (show Blk w1 gz 25 (batV ep b A n c) from K1.out).cell 2
  have HLG := Lib.hid (blong_any (ep := ep) (b := b) S1.out.1 S1.out.2)
  go_wp2_with fail
  refine HLG.out.mono ?_; rintro e w2 ⟨r1, rfl, hr1, hb2⟩
  have HB2 := Lib.hid (stepB HB1.out hb2)
  have K2 := Lib.hid (keepB (show Blk w1 gz 25 (batV ep b A n c) from K1.out) hb2)
  have S2 := Lib.hid (keepS S1.out hb2)
  clear hb2 k0 k1 k2
  cases r1
  case true =>
    clear hr1
    have HLV := Lib.hid (live26_any w2)
    go_wp2_with fail
    refine HLV.out.mono ?_; rintro e wz ⟨rfl, hbz⟩
    have HBZ := Lib.hid (stepB HB2.out hbz)
    clear hbz
    go_wp2_with fail
    go_ret
    exact ⟨rfl, HBZ.out⟩
  case false =>
  have BD := Lib.hid (hr1 rfl)
  clear hr1 K1 S1 HB1 HLG
  have hn30 : n ≤ 30 := by rw [← HN.out]; exact BD.out.1.1
  obtain ⟨ch, hch⟩ : ∃ ch, chG ep b es = ch := ⟨_, rfl⟩
  have HCH := Lib.hid hch
  have hpc := chained_any (ep := ep) (b := b) S2.out.1 S2.out.2 BD.out.cbd (Nat.le_trans BD.out.2 (by decide)) HHE.out HHB.out
  rw [hch] at hpc
  have HPC := Lib.hid hpc
  clear hch hpc
  have k0 := (show Blk w2 gz 25 (batV ep b A n c) from K2.out).cell 0
  have k1 := (show Blk w2 gz 25 (batV ep b A n c) from K2.out).cell 1
  have k2 := (show Blk w2 gz 25 (batV ep b A n c) from K2.out).cell 2
  go_wp2_with fail
  refine HPC.out.mono ?_; rintro e w3 ⟨rfl, hb3⟩
  have HB3 := Lib.hid (stepB HB2.out hb3)
  have K3 := Lib.hid (keepB (show Blk w2 gz 25 (batV ep b A n c) from K2.out) hb3)
  have S3 := Lib.hid (keepS S2.out hb3)
  clear hb3 k0 k1 k2 K2 S2 HB2 HPC
  have hrc := rchained_any (ep := ep) (b := b) S3.out.1 S3.out.2 BD.out.cbd (Nat.le_trans BD.out.2 (by decide)) HHE.out HHB.out
  rw [HCH.out] at hrc
  have HRC := Lib.hid hrc
  clear hrc
  have k0 := (show Blk w3 gz 25 (batV ep b A n c) from K3.out).cell 0
  have k1 := (show Blk w3 gz 25 (batV ep b A n c) from K3.out).cell 1
  have k2 := (show Blk w3 gz 25 (batV ep b A n c) from K3.out).cell 2
  go_wp2_with fail
  refine HRC.out.mono ?_; rintro e w4 ⟨rfl, hb4⟩
  have HB4 := Lib.hid (stepB HB3.out hb4)
  have K4 := Lib.hid (keepB (show Blk w3 gz 25 (batV ep b A n c) from K3.out) hb4)
  have S4 := Lib.hid (keepS S3.out hb4)
  clear hb4 k0 k1 k2 K3 S3 HB3 HRC
  have k0 := (show Blk w4 gz 25 (batV ep b A n c) from K4.out).cell 0
  have k1 := (show Blk w4 gz 25 (batV ep b A n c) from K4.out).cell 1
  have k2 := (show Blk w4 gz 25 (batV ep b A n c) from K4.out).cell 2
  have HCU := Lib.hid (cut_any (ep := ep) (b := b) (fr := fr) (tt := tt) S4.out.1 S4.out.2 BD.out.ebd (Nat.le_trans BD.out.2 (by decide)) HHE.out HHB.out HFR.out HTT.out)
  obtain ⟨okv, hokv⟩ : ∃ o, dec (CutOk ep b es fr tt) = o := ⟨_, rfl⟩
  have HOK := Lib.hid hokv
  clear hokv
  have hchn : (ch != ch) = false := by cases ch <;> rfl
  go_upto_region 7 with
    (go_at_call 12
     refine HCU.out.mono ?_
     rintro e w5 hcu
     obtain ⟨hb5, hcs⟩ := hcu
     have hform : ∃ xe xb Ax nx cx xs, e = .returned (.tuple #[.agg (batV xe xb Ax nx cx), .bool okv]) ∧ rpEnt.sl w5 (fun k => k < w5.heap.size) Ax nx cx xs ∧ (okv = true → CutOk ep b es fr tt ∧ xe = ep ∧ xb = fr ∧ nx = tt - fr ∧ xs = (es.take (tt - b)).drop (fr - b)) ∧ (okv = false → xe = 0 ∧ xb = 0 ∧ xs = []) := by
       rcases hcs with ⟨h0, A', c', h1, h2⟩ | ⟨h0, h1⟩
       · have : okv = true := by rw [← HOK.out]; exact dec_true h0
         subst this
         exact ⟨ep, fr, A', _, c', _, h1, h2, fun _ => ⟨h0, rfl, rfl, rfl, rfl⟩, fun h => by cases h⟩
       · have : okv = false := by rw [← HOK.out]; exact dec_false h0
         subst this
         exact ⟨0, 0, none, 0, 0, [], h1, Rp.sl_nil _ _ _ _ _ (by decide), (fun h => by cases h), fun _ => ⟨rfl, rfl, rfl⟩⟩
     obtain ⟨xe, xb, Ax, nx, cx, xs, rfl, hx, hy1, hy2⟩ := hform
     have hba := below1 w5 (.cells (batV xe xb Ax nx cx) 25)
     have HB6 := Lib.hid (stepB HB4.out (stepB hb5 hba))
     have K6 := Lib.hid (keepB (show Blk w4 gz 25 (batV ep b A n c) from K4.out) (stepB hb5 hba))
     have S6 := Lib.hid (keepS S4.out (stepB hb5 hba))
     have X6 := Lib.hid (keepS (show Sl rpEnt w5 _ Ax nx cx xs from ⟨hx, fun k hk => hk⟩) hba)
     have KX := Lib.hid (blk11 w5 25 (batV xe xb Ax nx cx))
     have HY1 := Lib.hid hy1
     have HY2 := Lib.hid hy2
     clear hcs hx hb5 hba hy1 hy2 k0 k1 k2)
  obtain ⟨gx, hgx⟩ : ∃ gx, gx = w5.heap.size := ⟨_, rfl⟩
  rw [← hgx] at KX ⊢
  clear hgx
  generalize World.alloc w5 _ = w6 at *
  clear hchn K4 S4 HB4 HCU
  go_cut [10] (fun v10 wx => v10 = .bool okv ∧ Hid (Below w6.heap.size w6 wx))
  case first =>
    obtain ⟨q, hq⟩ : ∃ q, dec (BatOk ep b es) = q := ⟨_, rfl⟩
    have HQ := Lib.hid hq
    have hbr := rbright_any (ep := ep) (b := b) S6.out.1 S6.out.2 (by omega) (Nat.le_trans BD.out.2 (by decide)) HHE.out HHB.out
    rw [hq] at hbr
    have HBR := Lib.hid hbr
    clear hbr hq
    have k0 := (show Blk w6 gz 25 (batV ep b A n c) from K6.out).cell 0
    have k1 := (show Blk w6 gz 25 (batV ep b A n c) from K6.out).cell 1
    have k2 := (show Blk w6 gz 25 (batV ep b A n c) from K6.out).cell 2
    cases q
    case false =>
      obtain rfl : okv = false := by rw [← HOK.out]; exact dec_false (fun h => of_not_dec HQ.out h.1)
      go_wp2_with
        (go_at_call 10
         refine HBR.out.mono ?_
         rintro e w7 ⟨rfl, hb7⟩
         have HB7 := Lib.hid hb7
         have k1 := (keepB (show Blk w6 gz 25 (batV ep b A n c) from K6.out) hb7).cell 1
         have k2 := (keepB (show Blk w6 gz 25 (batV ep b A n c) from K6.out) hb7).cell 2
         clear hb7)
      go_meet
      exact ⟨rfl, HB7⟩
    case true =>
      have hbo := of_dec HQ.out
      have hbn : b + n ≤ 4611686018427387904 := by have := hbo.2.1.2.2.2; have := HN.out; omega
      obtain ⟨en, hen⟩ : ∃ en, en = b + n := ⟨_, rfl⟩
      have hwn : IntKind.u64.wrap (n : Int) = (n : Int) := IntWalk.u64_in _ (by omega)
      have hwe : IntKind.u64.wrap ((b : Int) + (n : Int)) = (en : Int) := by rw [IntWalk.u64_in _ (by omega)]; omega
      have HEN := Lib.hid hen
      have HBO := Lib.hid hbo
      clear hbo hen
      by_cases h1 : b ≤ fr
      case neg =>
        have hd1 : decide ((fr : Int) ≥ (b : Int)) = false := by simp; omega
        obtain rfl : okv = false := by rw [← HOK.out]; exact dec_false (fun h => h1 h.2.1)
        go_wp2_with
          (go_at_call 10
           refine HBR.out.mono ?_
           rintro e w7 ⟨rfl, hb7⟩
           have HB7 := Lib.hid hb7
           have k1 := (keepB (show Blk w6 gz 25 (batV ep b A n c) from K6.out) hb7).cell 1
           have k2 := (keepB (show Blk w6 gz 25 (batV ep b A n c) from K6.out) hb7).cell 2
           clear hb7)
        go_meet
        exact ⟨rfl, HB7⟩
      case pos =>
      have hd1 : decide ((fr : Int) ≥ (b : Int)) = true := by simp; omega
      by_cases h2 : fr < tt
      case neg =>
        have hd2 : decide ((fr : Int) < (tt : Int)) = false := by simp; omega
        have hd2' : decide (fr < tt) = false := by simp; omega
        obtain rfl : okv = false := by rw [← HOK.out]; exact dec_false (fun h => h2 h.2.2.1)
        go_wp2_with
          (go_at_call 10
           refine HBR.out.mono ?_
           rintro e w7 ⟨rfl, hb7⟩
           have HB7 := Lib.hid hb7
           have k1 := (keepB (show Blk w6 gz 25 (batV ep b A n c) from K6.out) hb7).cell 1
           have k2 := (keepB (show Blk w6 gz 25 (batV ep b A n c) from K6.out) hb7).cell 2
           clear hb7)
        go_meet
        exact ⟨rfl, HB7⟩
      case pos =>
      have hd2 : decide ((fr : Int) < (tt : Int)) = true := by simp; omega
      have hd2' : decide (fr < tt) = true := by simp; omega
      obtain rfl : okv = decide (tt ≤ en) := by
        rw [← HOK.out]
        have : CutOk ep b es fr tt ↔ tt ≤ en := ⟨fun h => by have := h.2.2.2; have := HN.out; have := HEN.out; omega, fun h => ⟨HBO.out, h1, h2, by have := HN.out; have := HEN.out; omega⟩⟩
        rw [dec_congr this]
        by_cases h3 : tt ≤ en
        · rw [dec_true h3, decide_eq_true h3]
        · rw [dec_false h3, decide_eq_false h3]
      go_wp2_with
        (go_at_call 10
         refine HBR.out.mono ?_
         rintro e w7 ⟨rfl, hb7⟩
         have HB7 := Lib.hid hb7
         have k1 := (keepB (show Blk w6 gz 25 (batV ep b A n c) from K6.out) hb7).cell 1
         have k2 := (keepB (show Blk w6 gz 25 (batV ep b A n c) from K6.out) hb7).cell 2
         clear hb7)
      go_meet
      exact ⟨by simp, HB7⟩
  case rest =>
  obtain ⟨rfl, HB7⟩ := hcut
  obtain ⟨w7, hw7⟩ : ∃ w7, w7 = wc := ⟨_, rfl⟩
  subst hw7
  have K7 := Lib.hid (keepB (show Blk w6 gz 25 (batV ep b A n c) from K6.out) HB7.out)
  have X7 := Lib.hid (keepS X6.out HB7.out)
  have S7 := Lib.hid (keepS S6.out HB7.out)
  have KX7 := Lib.hid (keepB (show Blk w6 gx 25 (batV xe xb Ax nx cx) from KX.out) HB7.out)
  have HB70 := Lib.hid (stepB HB6.out HB7.out)
  clear K6 X6 S6 KX HB6 HB7
  have hon : (okv != okv) = false := by cases okv <;> rfl
  go_upto_region 10 with (fail)
  cases okv
  case false =>
    obtain ⟨e1, e2, e3⟩ := HY2.out rfl
    subst e1; subst e2; subst e3
    have x0 := (show Blk w7 gx 25 (batV 0 0 Ax nx cx) from KX7.out).cell 0
    have x1 := (show Blk w7 gx 25 (batV 0 0 Ax nx cx) from KX7.out).cell 1
    have x2 := (show Blk w7 gx 25 (batV 0 0 Ax nx cx) from KX7.out).cell 2
    have hsm := bsame_any (ep := 0) (b := 0) (ep' := 0) (b' := 0) X7.out.1 (Rp.sl_nil rpEnt w7 (fun _ => False) none 0 (by decide)) X7.out.2 (fun k hk => hk.elim)
    rw [dec_true rfl] at hsm
    have HSM := Lib.hid hsm
    clear hsm
    go_wp2_with fail
    refine HSM.out.mono ?_; rintro e w8 ⟨rfl, hb8⟩
    have HB8 := Lib.hid (stepB HB70.out hb8)
    have HLV := Lib.hid (live26_any w8)
    clear hb8 x0 x1 x2
    go_wp2_with fail
    refine HLV.out.mono ?_; rintro e wz ⟨rfl, hbz⟩
    have HBZ := Lib.hid (stepB HB8.out hbz)
    clear hbz
    go_wp2_with fail
    go_ret
    exact ⟨rfl, HBZ.out⟩
  case true =>
  obtain ⟨hc1, e1, e2, e3, e4⟩ := HY1.out rfl
  have e1' := e1.symm
  have e2' := e2.symm
  clear e1 e2
  subst e1'; subst e2'; subst e4
  obtain ⟨f1, f2, f3, f4⟩ := hc1
  have HCT := Lib.hid (show CutOk ep b es fr tt from ⟨f1, f2, f3, f4⟩)
  obtain ⟨lo, hlo⟩ : ∃ lo, lo = fr - b := ⟨_, rfl⟩
  obtain ⟨hi, hhi⟩ : ∃ hi, hi = tt - b := ⟨_, rfl⟩
  have hlh : lo ≤ hi := by omega
  have hhn : hi ≤ n := by have := HN.out; omega
  have hwl : IntKind.u64.wrap ((fr : Int) - (b : Int)) = (lo : Int) := by have := HFR.out; rw [IntWalk.u64_in _ (by omega)]; omega
  have hwh : IntKind.u64.wrap ((tt : Int) - (b : Int)) = (hi : Int) := by have := HTT.out; rw [IntWalk.u64_in _ (by omega)]; omega
  obtain ⟨As, hrun, hcut⟩ := run_cutV elemEnt S7.out.1 ent_size lo hi hlh hhn
  obtain ⟨mm, hmm⟩ : ∃ mm, mm = hi - lo := ⟨_, rfl⟩
  obtain ⟨cm, hcm⟩ : ∃ cm, cm = c - lo := ⟨_, rfl⟩
  rw [← hmm, ← hcm] at hrun hcut
  rw [← hlo, ← hhi] at X7
  have hall : ∀ u : Gr w7.heap.size w7, Calls Try.prog 19 #[.slice Ax nx cx, .slice As mm cm] u.val fun e w' => e = .returned (.bool true) ∧ Below u.val.heap.size u.val w' := fun u => by
    have hx := keepS X7.out u.is
    have hy := keepS S7.out u.is
    have h := esall_any hx.1 (hcut _ _ hy.1) hx.2 hy.2
    rw [dec_true rfl] at h
    exact h
  have HALL := Lib.hid hall
  have HLVE := Lib.hid (fun u : Gr w7.heap.size w7 => live26_any u.val)
  have m0 : ∀ u : Gr w7.heap.size w7, u.val.cell? ⟨gz, 0, none⟩ = some (.int .u64 (ep : Int)) := fun u => (keepB (show Blk w7 gz 25 (batV ep b A n c) from K7.out) u.is).cell 0
  have m1 : ∀ u : Gr w7.heap.size w7, u.val.cell? ⟨gz, 1, none⟩ = some (.int .u64 (b : Int)) := fun u => (keepB (show Blk w7 gz 25 (batV ep b A n c) from K7.out) u.is).cell 1
  have m2 : ∀ u : Gr w7.heap.size w7, u.val.cell? ⟨gz, 2, none⟩ = some (.slice A n c) := fun u => (keepB (show Blk w7 gz 25 (batV ep b A n c) from K7.out) u.is).cell 2
  have x0 : ∀ u : Gr w7.heap.size w7, u.val.cell? ⟨gx, 0, none⟩ = some (.int .u64 (ep : Int)) := fun u => (keepB (show Blk w7 gx 25 (batV ep fr Ax nx cx) from KX7.out) u.is).cell 0
  have x1 : ∀ u : Gr w7.heap.size w7, u.val.cell? ⟨gx, 1, none⟩ = some (.int .u64 (fr : Int)) := fun u => (keepB (show Blk w7 gx 25 (batV ep fr Ax nx cx) from KX7.out) u.is).cell 1
  have x2 : ∀ u : Gr w7.heap.size w7, u.val.cell? ⟨gx, 2, none⟩ = some (.slice Ax nx cx) := fun u => (keepB (show Blk w7 gx 25 (batV ep fr Ax nx cx) from KX7.out) u.is).cell 2
  have HLO := Lib.hid hlo
  have HHI := Lib.hid hhi
  go_upto_region 12 with (fail)
  clear hall hcut e3 f1 f2 f3 f4 hlo hhi hmm hcm hon
  cases ch
  case false =>
    refine wp_region_grow (by kernel_rfl) (by kernel_rfl) w7.heap.size ?_
    repeat (first | go_big_quiet_step ((first | (go_at_call 19; exact Gr.call _ (Nat.le_refl _) (HALL.out _)) | (go_at_call 8; exact Gr.call _ (Nat.le_refl _) (HLVE.out _)))) | quiet_step ((first | (go_at_call 19; exact Gr.call _ (Nat.le_refl _) (HALL.out _)) | (go_at_call 8; exact Gr.call _ (Nat.le_refl _) (HLVE.out _)))))
    refine wpQuiet_nil ?_
    rintro w8 ⟨⟨_, hb8⟩, rfl⟩
    have HBZ := Lib.hid (stepB HB70.out hb8)
    clear hb8
    go_wp2_with fail
    go_ret
    exact ⟨rfl, HBZ.out⟩
  case true =>
    have hck : ∀ u : Gr w7.heap.size w7, Calls Try.prog 17 #[.agg (batV ep fr Ax nx cx)] u.val fun e w' => e = .returned (.bool true) ∧ Below u.val.heap.size u.val w' := fun u => by
      have hx := keepS X7.out u.is
      have e : chG ep fr ((es.take hi).drop lo) = true := by rw [HHI.out, HLO.out]; exact cut_chained HCT.out HCH.out
      have h := chained_any (ep := ep) (b := fr) hx.1 hx.2 (BD.out.cbd.sub (by rw [List.length_drop, List.length_take]; omega) (fun e he => List.mem_of_mem_take (List.mem_of_mem_drop he))) (Nat.le_trans (tot_drop _) (Nat.le_trans (tot_le _) (Nat.le_trans BD.out.2 (by decide)))) HHE.out HFR.out
      rw [e] at h
      exact h
    have HCHN := Lib.hid hck
    clear hck
    refine wp_region_grow (by kernel_rfl) (by kernel_rfl) w7.heap.size ?_
    repeat (first | go_big_quiet_step ((first | (go_at_call 19; exact Gr.call _ (Nat.le_refl _) (HALL.out _)) | (go_at_call 17; exact Gr.call _ (Nat.le_refl _) (HCHN.out _)) | (go_at_call 8; exact Gr.call _ (Nat.le_refl _) (HLVE.out _)))) | quiet_step ((first | (go_at_call 19; exact Gr.call _ (Nat.le_refl _) (HALL.out _)) | (go_at_call 17; exact Gr.call _ (Nat.le_refl _) (HCHN.out _)) | (go_at_call 8; exact Gr.call _ (Nat.le_refl _) (HLVE.out _)))))
    refine wpQuiet_nil ?_
    rintro w8 ⟨⟨_, hb8⟩, rfl⟩
    have HBZ := Lib.hid (stepB HB70.out hb8)
    clear hb8
    go_wp2_with fail
    go_ret
    exact ⟨rfl, HBZ.out⟩
end
end Go.Proofs.Ytcbmnfjbmkpfiaa
