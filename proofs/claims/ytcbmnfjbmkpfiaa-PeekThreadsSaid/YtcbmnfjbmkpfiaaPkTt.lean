/- The document's Thread. -/
import Derived.Test.YtcbmnfjbmkpfiaaPkTn
namespace Go.Proofs.Ytcbmnfjbmkpfiaa
open Go.ChangeShapes Go.WideShapes Go.ChangeAt Go.RowKit
set_option linter.unusedVariables false
section
variable {D D' : Dom} {A At : Option Addr} {n c ep b nt ct : Nat} {es : List Ent} {tl : List Lnk} {w : World}
set_option maxRecDepth 100000 in
set_option maxHeartbeats 16000000 in
theorem rthread_any (hs : rpEnt.sl w D A n c es) (hD : ∀ k, D k → k < w.heap.size) (hE : EBd es) (hT : totL es ≤ 100000) (he : ep ≤ 18446744073709551615) (hb : b ≤ 18446744073709551615) (ht : rpLnk.sl w D' At nt ct tl) (hD' : ∀ k, D' k → k < w.heap.size) (htk : TOk 1000 tl) :
    Calls Try.prog 15 #[.agg (batV ep b A n c), .slice At nt ct] w (ThreadIs w ep b n es tl) := by
  obtain ⟨DD, hDDe⟩ : ∃ DD : Dom, DD = fun k => D k ∨ D' k := ⟨_, rfl⟩
  have hDD : ∀ k, DD k → k < w.heap.size := fun k hk => by rw [hDDe] at hk; exact hk.elim (hD k) (hD' k)
  have hs1 : rpEnt.sl w DD A n c es := Rp.sl_more hs (fun k hk => by rw [hDDe]; exact .inl hk)
  have ht1 : rpLnk.sl w DD At nt ct tl := Rp.sl_more ht (fun k hk => by rw [hDDe]; exact .inr hk)
  have hb2 := below2 w (.cells (batV ep b A n c) 25) (.cells zB 25)
  have HB2 := Lib.hid hb2
  have K1 := Lib.hid (blk21 w 25 25 (batV ep b A n c) zB)
  have K2 := Lib.hid (blk22 w 25 25 (batV ep b A n c) zB)
  have HS2 := Lib.hid (keepS (show Sl rpEnt w DD A n c es from ⟨hs1, hDD⟩) hb2)
  have HL0 := Lib.hid (show Sl rpLnk w DD At nt ct tl from ⟨ht1, hDD⟩)
  have HDD := Lib.hid hDD
  have HN := Lib.hid (Rp.sl_len hs).1
  have HNT := Lib.hid (Rp.sl_len ht).1
  have HE := Lib.hid hE
  have HT := Lib.hid hT
  have HHE := Lib.hid he
  have HHB := Lib.hid hb
  have HTK := Lib.hid htk
  have hn1 : n ≤ 1000 := by rw [← HN.out]; exact hE.1
  have hnt1 : nt ≤ 1000 := by rw [← HNT.out]; exact htk.1
  have HSZ : Hid ((Try.prog.info? 25).map (·.size) = some 3) := by show _ = _; kernel_rfl
  clear hs hD hb2 hE hT he hb ht hD' htk hDDe hDD hs1 ht1
  obtain ⟨q1, hq1⟩ : ∃ q, dec (BatOk ep b (bareL es)) = q := ⟨_, rfl⟩
  have HQ1 := Lib.hid hq1
  clear hq1
  obtain ⟨gz, hgz⟩ : ∃ gz, gz = w.heap.size := ⟨_, rfl⟩
  rw [← hgz] at K1 K2
  have HGZ := Lib.hid hgz
  have BADF : Hid (∀ (w5 : World), Below w.heap.size w w5 → ∀ w6, w5.grownBy w6 (some (gz + 1)) → ¬ ThOk ep b es tl → ThreadIs w ep b n es tl (.returned (.tuple #[.agg zB, .slice none 0 0, .int .i64 3])) w6) := fun w5 hb5 w6 hg hno =>
    ⟨hb5.grown hg hb5.size (fun q hq => by have e' : gz + 1 = q := Option.some.inj hq; have := HGZ.out; omega), .inr ⟨hno, rfl⟩⟩
  go_enter Try.func15, Try.ntmps15
  go_upto_region 1 with (fail)
  rw [← hgz]
  clear hgz
  generalize World.alloc (World.alloc w _) _ = w2 at *
  have k0 := (show Blk w2 gz 25 (batV ep b A n c) from K1.out).cell 0
  have k1 := (show Blk w2 gz 25 (batV ep b A n c) from K1.out).cell 1
  have k2 := (show Blk w2 gz 25 (batV ep b A n c) from K1.out).cell 2
  have HBR := Lib.hid (rbare_any (ep := ep) (b := b) HS2.out.1 HS2.out.2 HE.out)
  go_upto_region 2 with
    (go_at_call 40
     refine HBR.out.mono ?_
     rintro e w3 ⟨A3, c3, rfl, ht3, hb3⟩
     have hba := below1 w3 (.cells (batV ep b A3 n c3) 25)
     have HB4 := Lib.hid (stepB HB2.out (stepB hb3 hba))
     have KO := Lib.hid (blk11 w3 25 (batV ep b A3 n c3))
     have T4 := Lib.hid (TB.below ht3 hba)
     have K24 := Lib.hid (keepB (show Blk w2 (gz + 1) 25 zB from K2.out) (stepB hb3 hba))
     have HZB := Lib.hid hb3.size
     have HZ3 := Lib.hid (Nat.lt_of_lt_of_le (show Blk w2 (gz + 1) 25 zB from K2.out).lt hb3.size)
     clear ht3 hb3 hba k0 k1 k2)
  obtain ⟨go, hgo⟩ : ∃ go, go = w3.heap.size := ⟨_, rfl⟩
  rw [← hgo] at KO HZ3 HZB ⊢
  clear hgo
  generalize World.alloc w3 _ = w4 at *
  obtain ⟨base, hbase⟩ : ∃ base, base = w2.heap.size := ⟨_, rfl⟩
  rw [← hbase] at T4
  have HBASE : Hid (w.heap.size ≤ base ∧ gz + 1 < base) := by
    refine ⟨by rw [hbase]; exact HB2.out.size, by rw [hbase]; exact (show Blk w2 (gz + 1) 25 zB from K2.out).lt⟩
  have HGOB : Hid (base ≤ go) := by rw [hbase]; exact HZB.out
  have HD0 : Hid (∀ k, DD k → k < base) := fun k hk => Nat.lt_of_lt_of_le (HDD.out k hk) HBASE.out.1
  clear hbase HBR K1 K2 HS2 HB2
  have o0 := (show Blk w4 go 25 (batV ep b A3 n c3) from KO.out).cell 0
  have o1 := (show Blk w4 go 25 (batV ep b A3 n c3) from KO.out).cell 1
  have o2 := (show Blk w4 go 25 (batV ep b A3 n c3) from KO.out).cell 2
  have hbr := rbright_any (ep := ep) (b := b) (TB.sl T4.out) (fun k hk => hk) hn1 (by rw [bare_tot]; exact HT.out) HHE.out HHB.out
  rw [HQ1.out] at hbr
  have HBR := Lib.hid hbr
  clear hbr
  go_wp2_with fail
  refine HBR.out.mono ?_; rintro e w5 ⟨rfl, hb5⟩
  have HB5 := Lib.hid (stepB HB4.out hb5)
  have K5 := Lib.hid (keepB (show Blk w4 go 25 (batV ep b A3 n c3) from KO.out) hb5)
  have K25 := Lib.hid (keepB (show Blk w4 (gz + 1) 25 zB from K24.out) hb5)
  have T5 := Lib.hid (TB.below T4.out hb5)
  have L5 := Lib.hid (keepS HL0.out HB5.out)
  clear hb5 o0 o1 o2 KO T4 K24 HB4 HBR
  go_wp2_with fail
  go_loopw [8, 9] (fun v8 v9 wr => ∃ (i : Nat), 1 ≤ i ∧ (i ≤ nt ∨ i = 1) ∧ v8 = .bool (q1 && dec (UpTo tl i)) ∧ v9 = .int .i64 (i : Int) ∧ Hid (Below w5.heap.size w5 wr)) (fun _ v9 _ => nt + 1 - (intOf v9).toNat)
  case atStart => exact ⟨1, by omega, .inr rfl, by rw [dec_true (upTo_one tl (by omega)), Bool.and_true], rfl, Below.refl _ _⟩
  case round =>
    obtain ⟨i, hi1, hi2, rfl, rfl, hbel⟩ := hrel
    obtain ⟨okj, hokj⟩ : ∃ o, (q1 && dec (UpTo tl i)) = o := ⟨_, rfl⟩
    rw [hokj]
    have HOKJ := Lib.hid hokj
    clear hokj
    by_cases hin : i < nt
    case pos =>
      have hd : decide ((i : Int) < (nt : Int)) = true := by simp; omega
      have hiI : (0 : Int) ≤ (i : Int) := by omega
      have hiI2 : (i : Int) < (nt : Int) := by omega
      obtain ⟨j, hj⟩ : ∃ j, i = j + 1 := ⟨i - 1, by omega⟩
      have HIJ := Lib.hid hj
      have hjn : j < nt := by omega
      have hcast : (i : Int) - 1 = (j : Int) := by omega
      have hjI3 : (j : Int) < (nt : Int) := by omega
      have hjI : (0 : Int) ≤ (j : Int) := by omega
      have hL := keepS L5.out hbel.out
      obtain ⟨bo, off, x, A6, c6, rfl, hbD, hx, q0, _, _, hx64⟩ := lnk_at hL.1 hjn
      obtain ⟨bo', off', y, A7, c7, hA', _, hy, p0, _, _, hy64⟩ := lnk_at hL.1 hin
      injection hA' with hA'
      injection hA' with e1 e2 _
      subst e1; subst e2
      obtain ⟨xs, xl⟩ := x
      obtain ⟨ys, yl⟩ := y
      simp only at q0 p0 hx64 hy64
      have hbl := hL.2 _ hbD
      have hup : UpTo tl (i + 1) ↔ UpTo tl i ∧ xs < ys := by
        rw [hj] at hy ⊢
        exact upTo_succ hx hy
      have HUP := Lib.hid hup
      have m0 : ∀ u : Gr wr.heap.size wr, u.val.cell? ⟨bo, off + j * 2, none⟩ = some (.int .u64 (xs : Int)) := fun u => (u.is.cell (p := ⟨bo, off + j * 2, none⟩) hbl).trans q0
      have m1 : ∀ u : Gr wr.heap.size wr, u.val.cell? ⟨bo, off + i * 2, none⟩ = some (.int .u64 (ys : Int)) := fun u => (u.is.cell (p := ⟨bo, off + i * 2, none⟩) hbl).trans p0
      clear hj hL hx hy q0 p0 hbD hup
      cases okj
      case false =>
        have HNX : Hid (false = (q1 && dec (UpTo tl (i + 1)))) := by
          have h := HOKJ.out
          show _ = _
          cases q1
          · rfl
          · rw [Bool.true_and] at h ⊢
            exact (dec_false (fun h2 => of_not_dec h (HUP.out.1 h2).1)).symm
        go_upto_region 6 with (fail)
        refine wp_region_grow (by kernel_rfl) (by kernel_rfl) wr.heap.size ?_
        repeat (first | go_big_quiet_step (fail) | quiet_step (fail))
        refine wpQuiet_nil ?_
        rintro w6 ⟨⟨_, hb6⟩, rfl⟩
        have HB6 := Lib.hid (stepB hbel.out hb6)
        clear m0 m1 hb6 hcast
        go_wp2_with fail
        go_roundw
        case rel => exact ⟨i + 1, by omega, .inl (by omega), by rw [← HNX.out], by go_num, HB6⟩
        case measure => simp [intOf]; omega
      case true =>
        have HNX : Hid (decide (xs < ys) = (q1 && dec (UpTo tl (i + 1)))) := by
          have h := HOKJ.out
          rw [Bool.and_eq_true] at h
          show _ = _
          rw [h.1, Bool.true_and]
          by_cases h2 : xs < ys
          · rw [decide_eq_true h2, dec_true (HUP.out.2 ⟨of_dec h.2, h2⟩)]
          · rw [decide_eq_false h2, dec_false (fun h3 => h2 (HUP.out.1 h3).2)]
        go_upto_region 6 with (fail)
        refine wp_region_grow (by kernel_rfl) (by kernel_rfl) wr.heap.size ?_
        repeat (first | go_big_quiet_step (fail) | quiet_step (fail))
        refine wpQuiet_nil ?_
        rintro w6 ⟨⟨_, hb6⟩, rfl⟩
        have HB6 := Lib.hid (stepB hbel.out hb6)
        clear m0 m1 hb6 hcast
        go_wp2_with fail
        go_roundw
        case rel => exact ⟨i + 1, by omega, .inl (by omega), by rw [← HNX.out]; try simp, by go_num, HB6⟩
        case measure => simp [intOf]; omega
    case neg =>
      have hd : decide ((i : Int) < (nt : Int)) = false := by simp; omega
      obtain ⟨q2, hq2⟩ : ∃ q, dec (StrUp tl) = q := ⟨_, rfl⟩
      have HQ2 := Lib.hid hq2
      have hok : okj = (q1 && q2) := by
        rw [← HOKJ.out, ← hq2]
        have : UpTo tl i ↔ StrUp tl := by
          unfold StrUp
          rw [HNT.out]
          rcases hi2 with h | h
          · have e : i = nt := by omega
            rw [e]
          · exact ⟨fun _ => upTo_one tl (by omega), fun _ => upTo_one tl (by omega)⟩
        rw [dec_congr this]
      have HB6 := Lib.hid (stepB HB5.out hbel.out)
      have K6 := Lib.hid (keepB (show Blk w5 go 25 (batV ep b A3 n c3) from K5.out) hbel.out)
      have K26 := Lib.hid (keepB (show Blk w5 (gz + 1) 25 zB from K25.out) hbel.out)
      have T6 := Lib.hid (TB.below T5.out hbel.out)
      have L6 := Lib.hid (keepS L5.out hbel.out)
      have HOKK := Lib.hid hok
      clear hq2 hok K5 K25 T5 L5 HB5 hbel HOKJ
      cases okj
      case false =>
        have HNO : Hid (¬ ThOk ep b es tl) := fun h => by
          have h2 := HOKK.out
          rw [← HQ1.out, ← HQ2.out, dec_true h.1, dec_true h.2.1] at h2
          cases h2
        go_wp2_with (refine wpList_put_row rfl 25 (.tmp 4) (.tmp 41) rfl (gz + 1) zB rfl rfl 25 _ K26.out HSZ.out rfl (by simp [Value.oneCell']) ?_; intro w7 hblk hgr)
        try rw [Exit.noGoto_ret]
        have x0 := (show Blk w7 (gz + 1) 25 zB from hblk).cell 0
        have x1 := (show Blk w7 (gz + 1) 25 zB from hblk).cell 1
        have x2 := (show Blk w7 (gz + 1) 25 zB from hblk).cell 2
        refine bodyPost_ret (v := .tuple #[.agg zB, .slice none 0 0, .int .i64 3]) (by simp [results, Try.results15, go_sem, x0, x1, x2]) rfl (BADF.out _ HB6.out _ hgr HNO.out)
      case true =>
        have h1 := HOKK.out.symm
        rw [Bool.and_eq_true, ← HQ1.out, ← HQ2.out] at h1
        have HOK1 := Lib.hid (of_dec h1.1)
        have HOK2 := Lib.hid (of_dec h1.2)
        clear h1 HOKK HQ1 HQ2
        obtain ⟨w6, hw6⟩ : ∃ w6, w6 = wr := ⟨_, rfl⟩
        subst hw6
        have hbn : b + n ≤ 4611686018427387904 ∧ n ≤ 16 := by
          have h1 := HOK1.out.2.1
          rw [bare_len, HN.out] at h1
          exact ⟨h1.2.2.2, h1.2.1⟩
        have hn16 := hbn.2
        have HBN := Lib.hid hbn.1
        clear hbn
        obtain ⟨bes, hbes⟩ : ∃ bes, bes = bareL es := ⟨_, rfl⟩
        have HBES := Lib.hid hbes
        have HBL : Hid (bes.length = n) := by show _ = _; rw [hbes, bare_len]; exact HN.out
        have HL16 : Hid (∀ e ∈ bes, e.1.length ≤ 16) := fun e he => by
          rw [hbes] at he
          obtain ⟨i, hi⟩ := List.getElem?_of_mem he
          exact (HOK1.out.2.2 i e hi).1
        rw [← hbes] at T6
        clear hbes
        obtain ⟨hi, hhi⟩ : ∃ hi, hi = w6.heap.size := ⟨_, rfl⟩
        have HT6 := Lib.hid (TB.toB T6.out)
        rw [← hhi] at HT6
        have HHI : Hid (hi ≤ w6.heap.size) := by show _ ≤ _; omega
        have HBH : Hid (base ≤ hi) := by
          have h1 := (show Blk w6 go 25 _ from K6.out).lt
          have h2 := HZ3.out
          show base ≤ hi
          rw [hhi]
          exact Nat.le_of_lt (Nat.lt_of_le_of_lt HGOB.out h1)
        have HTL6 : Hid (TLs DD hi w6 At nt ct tl) := .inl L6.out.1
        clear hhi T6 L6
        go_wp2_with fail
        go_loopw [1, 10] (fun v1 v10 wr => ∃ (i nq : Nat) (Aq : Option Addr) (cq : Nat), i ≤ n ∧ v1 = .slice Aq nq cq ∧ v10 = .int .i64 (i : Int) ∧ Hid (TBb hi DD wr base A3 n c3 ((thE b bes tl i).1 ++ bes.drop i)) ∧ Hid (TLs DD hi wr Aq nq cq (thE b bes tl i).2) ∧ Hid (Blk wr go 25 (batV ep b A3 n c3)) ∧ Hid (Blk wr (gz + 1) 25 zB) ∧ Hid (Below w.heap.size w wr) ∧ Hid (hi ≤ wr.heap.size)) (fun _ v10 _ => n - (intOf v10).toNat)
        case atStart => exact ⟨0, nt, At, ct, by omega, rfl, rfl, HT6.out, HTL6.out, K6.out, K26.out, HB6.out, HHI.out⟩
        case round =>
          clear HT6 HTL6 K6 K26 HB6 HHI
          obtain ⟨i, nq, Aq, cq, hin', rfl, rfl, htb, htl, hk1, hk2, hbel, hhw⟩ := hrel
          have o2 := (show Blk wr go 25 (batV ep b A3 n c3) from hk1.out).cell 2
          have HDW : Hid (∀ k, DD k → k < wr.heap.size) := fun k hk => Nat.lt_of_lt_of_le (HDD.out k hk) hbel.out.size
          by_cases hin : i < n
          case neg =>
            obtain rfl : i = n := by omega
            have hd : decide ((i : Int) < (i : Int)) = false := by simp
            have HT7 : Hid (TB DD wr base A3 i c3 (thE b bes tl i).1) := by
              have h := htb.out.tb
              rw [List.drop_of_length_le (by have := HBL.out; omega), List.append_nil] at h
              exact h
            have o0 := (show Blk wr go 25 (batV ep b A3 i c3) from hk1.out).cell 0
            have o1 := (show Blk wr go 25 (batV ep b A3 i c3) from hk1.out).cell 1
            obtain ⟨q3, hq3⟩ : ∃ q, dec (BatOk ep b (thE b bes tl i).1) = q := ⟨_, rfl⟩
            have htot : totL (thE b bes tl i).1 ≤ 100000 := by
              have h := thE_tot b bes tl
              rw [HBL.out] at h
              rw [h, HBES.out, bare_tot]; exact HT.out
            have hbr := rbright_any (ep := ep) (b := b) (TB.sl HT7.out) (fun k hk => hk) hn1 htot HHE.out HHB.out
            rw [hq3] at hbr
            have HBR := Lib.hid hbr
            have HQ3 := Lib.hid hq3
            clear hbr hq3 htot
            go_wp2_with fail
            refine HBR.out.mono ?_; rintro e w8 ⟨rfl, hb8⟩
            have HB8 := Lib.hid (stepB hbel.out hb8)
            have K8 := Lib.hid (keepB (show Blk wr go 25 (batV ep b A3 i c3) from hk1.out) hb8)
            have K28 := Lib.hid (keepB (show Blk wr (gz + 1) 25 zB from hk2.out) hb8)
            have T8 := Lib.hid (TB.below HT7.out hb8)
            have TL8 := Lib.hid (TLs.below htl.out HDW.out hb8)
            have HD8 : Hid (∀ k, DD k → k < w8.heap.size) := fun k hk => Nat.lt_of_lt_of_le (HDW.out k hk) hb8.size
            have HNG : Hid (¬ DD (gz + 1)) := fun h => by have := HDD.out _ h; have := HGZ.out; omega
            clear hb8 o0 o1 o2
            cases q3
            case false =>
              have HNO : Hid (¬ ThOk ep b es tl) := fun h => of_not_dec HQ3.out (by
                have h2 := h.2.2
                rw [← HBES.out, HN.out] at h2
                exact h2)
              go_wp2_with (refine wpList_put_row rfl 25 (.tmp 4) (.tmp 94) rfl (gz + 1) zB rfl rfl 25 _ K28.out HSZ.out rfl (by simp [Value.oneCell']) ?_; intro w9 hblk hgr)
              try rw [Exit.noGoto_ret]
              have x0 := (show Blk w9 (gz + 1) 25 zB from hblk).cell 0
              have x1 := (show Blk w9 (gz + 1) 25 zB from hblk).cell 1
              have x2 := (show Blk w9 (gz + 1) 25 zB from hblk).cell 2
              refine bodyPost_ret (v := .tuple #[.agg zB, .slice none 0 0, .int .i64 3]) (by simp [results, Try.results15, go_sem, x0, x1, x2]) rfl (BADF.out _ HB8.out _ hgr HNO.out)
            case true =>
              have HYES : Hid (ThOk ep b es tl) := ⟨HOK1.out, HOK2.out, by rw [← HBES.out, HN.out]; exact of_dec HQ3.out⟩
              have o0 := (show Blk w8 go 25 (batV ep b A3 i c3) from K8.out).cell 0
              have o1 := (show Blk w8 go 25 (batV ep b A3 i c3) from K8.out).cell 1
              have o2 := (show Blk w8 go 25 (batV ep b A3 i c3) from K8.out).cell 2
              go_wp2_with (refine wpList_put_row rfl 25 (.tmp 4) (.tmp 95) rfl (gz + 1) (batV ep b A3 i c3) rfl rfl 25 _ K28.out HSZ.out rfl (by simp [Value.oneCell']) ?_; intro w9 hblk hgr)
              try rw [Exit.noGoto_ret]
              have x0 := (show Blk w9 (gz + 1) 25 (batV ep b A3 i c3) from hblk).cell 0
              have x1 := (show Blk w9 (gz + 1) 25 (batV ep b A3 i c3) from hblk).cell 1
              have x2 := (show Blk w9 (gz + 1) 25 (batV ep b A3 i c3) from hblk).cell 2
              have t9 := TB.turned T8.out (show Blk w8 (gz + 1) 25 zB from K28.out) (by unfold TD; decide) HNG.out (.inl ⟨by decide, by decide⟩) hgr
              have l9 := TLs.other TL8.out HD8.out (show Blk w8 (gz + 1) 25 zB from K28.out) HNG.out (by decide) (by decide) hgr
              refine bodyPost_ret (v := .tuple #[.agg (batV ep b A3 i c3), .slice Aq nq cq, .int .i64 0]) (by simp [results, Try.results15, go_sem, x0, x1, x2]) rfl ⟨HB8.out.grown hgr HB8.out.size (fun q hq => by have e' : gz + 1 = q := Option.some.inj hq; have := HGZ.out; omega), .inl ⟨HYES.out, A3, c3, Aq, nq, cq, rfl, ?_, ?_⟩⟩
              · rw [← HBES.out, HN.out]; exact TB.sl t9
              · rw [← HBES.out, HN.out]; exact TLs.sl l9 (fun k hk => Nat.lt_of_lt_of_le (HD8.out k hk) hgr.size)
          case pos =>
            have hd : decide ((i : Int) < (n : Int)) = true := by simp; omega
            have hiI : (0 : Int) ≤ (i : Int) := by omega
            have hiI2 : (i : Int) < (n : Int) := by omega
            obtain ⟨x, hx⟩ : ∃ x, bes[i]? = some x := ⟨_, List.getElem?_eq_getElem (by have := HBL.out; omega)⟩
            obtain ⟨xL, xd⟩ := x
            have hlen : (thE b bes tl i).1.length = i := thE_len i (by have := HBL.out; omega)
            have HLEN := Lib.hid hlen
            have htb1 := htb.out
            rw [drop_at hx] at htb1
            obtain ⟨gE, AL, cL, BL, dL, curE, rfl, hgE, hkE, cE0, cE1⟩ := TB.at htb1.tb (mid_at hlen)
            simp only at cE0 cE1
            obtain ⟨xn, hxn⟩ : ∃ xn, xL.length = xn := ⟨_, rfl⟩
            rw [hxn] at cE0
            have hx16 : xn ≤ 16 := by rw [← hxn]; exact HL16.out _ (List.mem_of_getElem? hx)
            have HXN := Lib.hid hxn
            have HX := Lib.hid hx
            have HYN : Hid (∀ (k : Nat) (y : Lnk), xL[k]? = some y → y.2 = []) := fun k y hy => by
              have h := hx
              rw [HBES.out] at h
              exact bare_nil h hy
            obtain ⟨p, hp⟩ : ∃ p, p = b + i := ⟨_, rfl⟩
            have hp62 : p ≤ 4611686018427387904 := by have := HBN.out; omega
            have hpw : IntKind.u64.wrap ((b : Int) + (i : Int)) = (p : Int) := by rw [IntWalk.u64_in _ (by have := HBN.out; omega)]; omega
            have hiw : IntKind.u64.wrap (i : Int) = (i : Int) := IntWalk.u64_in _ (by omega)
            have HPW := Lib.hid hpw
            have HIW := Lib.hid hiw
            obtain ⟨T0, hT0⟩ : ∃ T0, T0 = (thE b bes tl i).2 := ⟨_, rfl⟩
            have HTOK : Hid (TOk (1000 + i * 16) T0) := by
              show TOk _ _
              rw [hT0]; exact thE_ok HTK.out HL16.out i
            have HTL0 := htl.out
            rw [← hT0] at HTL0
            have HSUC : Hid (thE b bes tl (i + 1) = ((thE b bes tl i).1 ++ [((thS p xL T0 xL.length).1, xd)], (thS p xL T0 xL.length).2)) := by
              show _ = _
              rw [thE_succ hx, hT0, hp]
            have HT5 := Lib.hid htb1
            have HO5 := Lib.hid HTL0
            have cE0' : wr.cell? ⟨gE, 0 + i * 2, none⟩ = some (.slice AL xn cL) := by rw [Nat.zero_add]; exact cE0
            have HC5 := Lib.hid cE0
            have HKE := Lib.hid hkE.lt
            clear hx hlen htb1 hxn hkE htb htl hp hpw hiw hT0 HTL0 cE1
            go_upto_region 13 with (fail)
            clear cE0 cE0' o2
            obtain ⟨wo, hwo⟩ : ∃ wo, wo = wr := ⟨_, rfl⟩
            subst hwo
            go_wp2_with fail
            go_loopw [1, 12] (fun v1 v12 wq => ∃ (k nq : Nat) (Aq : Option Addr) (cq : Nat), k ≤ xn ∧ v1 = .slice Aq nq cq ∧ v12 = .int .i64 (k : Int) ∧ Hid (TBb hi DD wq base (some ⟨gE, 0, none⟩) n c3 ((thE b bes tl i).1 ++ ([((thS p xL T0 k).1 ++ xL.drop k, xd)] ++ bes.drop (i + 1)))) ∧ Hid (TLs DD hi wq Aq nq cq (thS p xL T0 k).2) ∧ Hid (Blk wq go 25 (batV ep b (some ⟨gE, 0, none⟩) n c3)) ∧ Hid (Blk wq (gz + 1) 25 zB) ∧ Hid (wq.cell? ⟨gE, i * 2, none⟩ = some (.slice AL xn cL)) ∧ Hid (Below w.heap.size w wq) ∧ Hid (hi ≤ wq.heap.size)) (fun _ v12 _ => xn - (intOf v12).toNat)
            case atStart => exact ⟨0, nq, Aq, cq, by omega, rfl, rfl, HT5.out, HO5.out, hk1.out, hk2.out, HC5.out, hbel.out, hhw.out⟩
            case round =>
              clear HT5 HO5 hk1 hk2 HC5 hbel hhw HDW
              obtain ⟨k, nq, Aq, cq, hk, rfl, rfl, htq, htl, hk1, hk2, hcq, hbel, hhw⟩ := hrel
              have HDW : Hid (∀ k, DD k → k < wr.heap.size) := fun k hk => Nat.lt_of_lt_of_le (HDD.out k hk) hbel.out.size
              by_cases hkn : k < xn
              case neg =>
                obtain rfl : k = xn := by omega
                have hd2 : decide ((k : Int) < (k : Int)) = false := by simp
                have HT6 : Hid (TBb hi DD wr base (some ⟨gE, 0, none⟩) n c3 ((thE b bes tl (i + 1)).1 ++ bes.drop (i + 1))) := by
                  have h := htq.out
                  rw [List.drop_of_length_le (l := xL) (by have := HXN.out; omega), List.append_nil, ← List.append_assoc] at h
                  show TBb _ _ _ _ _ _ _ _
                  rw [HSUC.out, HXN.out]; exact h
                have HO6 : Hid (TLs DD hi wr Aq nq cq (thE b bes tl (i + 1)).2) := by
                  show TLs _ _ _ _ _ _ _
                  rw [HSUC.out, HXN.out]; exact htl.out
                go_wp2_with fail
                go_roundw
                case rel => exact ⟨i + 1, nq, Aq, cq, by omega, rfl, by go_num, HT6, HO6, hk1, hk2, hbel, hhw⟩
                case measure => simp [intOf]; omega
              case pos =>
                have hd2 : decide ((k : Int) < (xn : Int)) = true := by simp; omega
                have hkI : (0 : Int) ≤ (k : Int) := by omega
                have hkI2 : (k : Int) < (xn : Int) := by omega
                obtain ⟨y, hy⟩ : ∃ y, xL[k]? = some y := ⟨_, List.getElem?_eq_getElem (by have := HXN.out; omega)⟩
                have hy0 := HYN.out k y hy
                obtain ⟨ys, yl⟩ := y
                simp only at hy0
                subst hy0
                have hpl : (thS p xL T0 k).1.length = k := thS_len k (by have := HXN.out; omega)
                have hLk : ((thS p xL T0 k).1 ++ xL.drop k)[k]? = some (ys, []) := by rw [drop_at hy]; exact mid_at hpl
                obtain ⟨gE2, cw, g, _, hA2, hgE2l, q0, hgb2, hgl, hghi, hgne, hfr, r0, r1, ⟨A9, n9, c9, rfl⟩, hy64, hcur, hturn⟩ := TBb.turn htq.out HD0.out (mid_at HLEN.out) hLk
                simp only at r0 hy64
                injection hA2 with hA2
                injection hA2 with hA2
                subst hA2
                have hq0 := hcq.out
                rw [q0] at hq0
                injection hq0 with hq0
                injection hq0 with e1 e2 e3
                subst e1; subst e3
                obtain ⟨hn90, hc9⟩ := turn_nil htq.out.tb (mid_at HLEN.out) hLk q0 r1
                subst hn90
                obtain ⟨curg, hbg⟩ := hcur
                obtain ⟨T, hT⟩ : ∃ T, T = (thS p xL T0 k).2 := ⟨_, rfl⟩
                obtain ⟨fl, hfl⟩ : ∃ fl, fl = (fnd T ys).2.2 := ⟨_, rfl⟩
                have HFL := Lib.hid hfl
                have HSU : Hid (thS p xL T0 (k + 1) = ((thS p xL T0 k).1 ++ [(ys, fl)], withL T (extL (ys, fl) p))) := by show _ = _; rw [thS_succ hy, hfl, hT]
                have hTok : TOk (1000 + i * 16 + k) T := by rw [hT]; exact thS_ok HTOK.out k
                have HTK2 := Lib.hid hTok
                have hflen : fl.length ≤ 1000 := by rw [hfl]; exact hTok.fnd ys
                have hol1 : TLs DD hi wr Aq nq cq T := by rw [hT]; exact htl.out
                have hTl : T.length = nq := hol1.len
                have HTLN := Lib.hid hTl
                have hnq : nq ≤ 2000 := by
                  have h2 := hTok.1
                  omega
                have HSET : Hid (((thS p xL T0 k).1 ++ xL.drop k).set k (ys, fl) = (thS p xL T0 (k + 1)).1 ++ xL.drop (k + 1)) := by
                  show _ = _
                  rw [drop_at hy, mid_set hpl, HSU.out, List.append_assoc]
                have HTURN := Lib.hid hturn
                have HBG := Lib.hid hbg
                have HR0 := Lib.hid r0
                have HR1 := Lib.hid r1
                have HGN := Lib.hid (show g < wr.heap.size ∧ base ≤ g ∧ g < hi ∧ g ≠ gE from ⟨hgl, hgb2, hghi, hgne⟩)
                have HGD : Hid (¬ DD g) := fun h => by have := HD0.out g h; omega
                have HGEL := Lib.hid hgE2l
                have HLK := Lib.hid hLk
                have HC9 := Lib.hid hc9
                have HOL1 := Lib.hid hol1
                have HQ0 : Hid (wr.cell? ⟨gE, i * 2, none⟩ = some (.slice (some ⟨g, 0, none⟩) xn cw)) := hcq.out
                obtain ⟨R, hR⟩ : ∃ R, rfI T ys = R := ⟨_, rfl⟩
                have hfi := rfind_any (s := ys) (TLs.sl hol1 HDW.out) (fun k hk => hk) (by omega) hy64
                rw [hR] at hfi
                have HFI := Lib.hid hfi
                have HRR := Lib.hid hR
                have r0' : wr.cell? ⟨g, 0 + k * 2, none⟩ = some (.int .u64 (ys : Int)) := by rw [Nat.zero_add]; exact r0
                clear hy hpl hLk hturn q0 hbg hT hfl hTok hol1 hTl hfr hgE2l hgb2 hgl hghi hgne e2 hfi hR hc9 r1
                go_upto_region 17 with
                  (go_at_call 41
                   refine HFI.out.mono ?_
                   rintro e w7 ⟨rfl, hb7⟩
                   have HB7 := Lib.hid hb7
                   have BG7 := Lib.hid (keepB (show Blk wr g 57 curg from HBG.out) hb7)
                   have TL7 := Lib.hid (TLs.below HOL1.out HDW.out hb7)
                   have HBW7 := Lib.hid (stepB hbel.out hb7)
                   have c0 := (hb7.cell (p := ⟨g, k * 2, none⟩) HGN.out.1).trans HR0.out
                   have c1 := (hb7.cell (p := ⟨g, k * 2 + 1, none⟩) HGN.out.1).trans HR1.out
                   clear hb7 r0 r0')
                have HD7 : Hid (∀ k, DD k → k < w7.heap.size) := fun k hk => Nat.lt_of_lt_of_le (HDW.out k hk) HB7.out.size
                have C0 := Lib.hid c0
                have C1 := Lib.hid c1
                have QE7 := Lib.hid ((HB7.out.cell (p := ⟨gE, i * 2, none⟩) HGEL.out).trans HQ0.out)
                have KO7 := Lib.hid (keepB (show Blk wr go 25 (batV ep b (some ⟨gE, 0, none⟩) n c3) from hk1.out) HB7.out)
                have KZ7 := Lib.hid (keepB (show Blk wr (gz + 1) 25 zB from hk2.out) HB7.out)
                have HH7 := Lib.hid (Nat.le_trans hhw.out HB7.out.size)
                clear c0 c1
                obtain ⟨fb, hfb⟩ : ∃ fb, decide (R ≥ 0) = fb := ⟨_, rfl⟩
                have hfb2 : decide (0 ≤ R) = fb := hfb
                have HFB := Lib.hid hfb
                go_cut [69] (fun v69 wx => v69 = .bool fb ∧ wx = w7)
                case first =>
                  go_wp2_with fail
                  go_meet
                  exact ⟨rfl, rfl⟩
                case rest =>
                obtain ⟨rfl, hwc⟩ := hcut
                subst hwc
                clear hfb hfb2
                rename_i hKK
                refine hKK _ _ ?_
                clear hKK
                obtain ⟨w7, hw7⟩ : ∃ w7, w7 = wc := ⟨_, rfl⟩
                subst hw7
                go_cut [] (fun wx => ∃ (A5 : Option Addr) (fn c5 : Nat), Hid (TBb hi DD wx base (some ⟨gE, 0, none⟩) n c3 ((thE b bes tl i).1 ++ ([((thS p xL T0 (k + 1)).1 ++ xL.drop (k + 1), xd)] ++ bes.drop (i + 1)))) ∧ Hid (TLs DD hi wx Aq nq cq T) ∧ Hid (Blk wx go 25 (batV ep b (some ⟨gE, 0, none⟩) n c3)) ∧ Hid (Blk wx (gz + 1) 25 zB) ∧ Hid (wx.cell? ⟨gE, i * 2, none⟩ = some (.slice (some ⟨g, 0, none⟩) xn cw)) ∧ Hid (wx.cell? ⟨g, k * 2, none⟩ = some (.int .u64 (ys : Int))) ∧ Hid (wx.cell? ⟨g, k * 2 + 1, none⟩ = some (.slice A5 fn c5)) ∧ Hid (rpU64.sl wx (Tb T64 DD wx) A5 fn c5 fl) ∧ Hid (Below w.heap.size w wx) ∧ Hid (hi ≤ wx.heap.size) ∧ Hid (g < wx.heap.size))
                case first =>
                  by_cases hfound : idxOf T ys < nq
                  case pos =>
                    obtain ⟨ri, hri⟩ : ∃ ri, ri = idxOf T ys := ⟨_, rfl⟩
                    have hRe : R = (ri : Int) := by rw [← HRR.out]; unfold rfI; rw [if_pos (by rw [HTLN.out]; exact hfound), hri]
                    subst hRe
                    obtain rfl : fb = true := by rw [← HFB.out]; simp
                    have hriI : (0 : Int) ≤ (ri : Int) := by omega
                    have hriI2 : (ri : Int) < (nq : Int) := by omega
                    rw [← hri] at hfound
                    obtain ⟨bt, offt, x2, A5, c5, rfl, hbt, hx2, _, v1, hxr, _⟩ := TLs.at TL7.out HD7.out hfound
                    obtain ⟨xs2, xl2⟩ := x2
                    simp only at v1 hxr
                    have hfe : fl = xl2 := by rw [HFL.out, fnd_found (x := (xs2, xl2)) (by rw [← hri]; exact hx2)]
                    subst hfe
                    obtain ⟨fn, hfn⟩ : ∃ fn, fn = fl.length := ⟨_, rfl⟩
                    rw [← hfn] at v1 hxr
                    have XR := Lib.hid hxr
                    clear hfn hx2 hxr hri hfound
                    have f0 := (show Blk w7 g 57 curg from BG7.out).frozen (k * 2 + 1)
                    have f0' : w7.frozen? ⟨g, 0 + k * 2 + 1, none⟩ = false := by rw [Nat.zero_add]; exact f0
                    have c1 := C1.out
                    have c1' : w7.cell? ⟨g, 0 + k * 2 + 1, none⟩ = some (.slice A9 0 c9) := by rw [Nat.zero_add]; exact C1.out
                    have HT8 := Lib.hid (HTURN.out w7 A5 fn c5 fl HB7.out (Rp.sl_more XR.out (fun k hk => ⟨hk.1, hk.2.elim .inl (fun ⟨cs, t, h1, h2⟩ => .inr ⟨cs, t, h1, .inl h2⟩)⟩)))
                    have TL8 := Lib.hid (TLs.turn (j := k * 2 + 1) TL7.out HD7.out (show Blk w7 g 57 curg from BG7.out) HGD.out HGN.out.2.2.1 (.slice A5 fn c5))
                    have XR8 := Lib.hid (tb_turn (j := k * 2 + 1) XR.out (show Blk w7 g 57 curg from BG7.out) HGD.out (.slice A5 fn c5))
                    have KO8 := Lib.hid ((show Blk w7 go 25 _ from KO7.out).far (p := ⟨g, k * 2 + 1, none⟩) (fun e => by have e' : go = g := e; subst e'; exact absurd (blk_type BG7.out KO7.out) (by decide)) (.slice A5 fn c5))
                    have KZ8 := Lib.hid ((show Blk w7 (gz + 1) 25 zB from KZ7.out).far (p := ⟨g, k * 2 + 1, none⟩) (fun e => by have e' : g = gz + 1 := e.symm; subst e'; exact absurd (blk_type BG7.out KZ7.out) (by decide)) (.slice A5 fn c5))
                    have QE8 : Hid ((w7.setCell ⟨g, k * 2 + 1, none⟩ (.slice A5 fn c5)).cell? ⟨gE, i * 2, none⟩ = some (.slice (some ⟨g, 0, none⟩) xn cw)) := cell_keep QE7.out (fun e => HGN.out.2.2.2 e.symm)
                    have BG8 := Lib.hid ((show Blk w7 g 57 curg from BG7.out).put (k * 2 + 1) (.slice A5 fn c5))
                    have C08 : Hid ((w7.setCell ⟨g, k * 2 + 1, none⟩ (.slice A5 fn c5)).cell? ⟨g, k * 2, none⟩ = some (.int .u64 (ys : Int))) := by
                      have h1 := (show Blk w7 g 57 curg from BG7.out).cell (k * 2)
                      have h2 := BG8.out.cell (k * 2)
                      rw [C0.out] at h1
                      show _ = _
                      rw [h2, Array.getElem?_setIfInBounds, if_neg (by omega), ← h1]
                    have C18 : Hid ((w7.setCell ⟨g, k * 2 + 1, none⟩ (.slice A5 fn c5)).cell? ⟨g, k * 2 + 1, none⟩ = some (.slice A5 fn c5)) := by
                      have h1 := (show Blk w7 g 57 curg from BG7.out).cell (k * 2 + 1)
                      have h2 := BG8.out.cell (k * 2 + 1)
                      rw [C1.out] at h1
                      have h3 := (Array.getElem?_eq_some_iff.1 h1.symm).1
                      show _ = _
                      rw [h2, Array.getElem?_setIfInBounds, if_pos rfl, if_pos h3]
                    have HB8 := Lib.hid (HBW7.out.setCell (p := ⟨g, k * 2 + 1, none⟩) (by have := HGN.out.2.1; have := HBASE.out.1; show w.heap.size ≤ g; omega) (.slice A5 fn c5))
                    have HH8 := Lib.hid (Nat.le_trans HH7.out (size_set w7 ⟨g, k * 2 + 1, none⟩ (.slice A5 fn c5)))
                    have HG8 := Lib.hid (Nat.lt_of_lt_of_le (Nat.lt_of_lt_of_le HGN.out.1 HB7.out.size) (size_set w7 ⟨g, k * 2 + 1, none⟩ (.slice A5 fn c5)))
                    have HT9 : Hid (TBb hi DD (w7.setCell ⟨g, k * 2 + 1, none⟩ (.slice A5 fn c5)) base (some ⟨gE, 0, none⟩) n c3 ((thE b bes tl i).1 ++ ([((thS p xL T0 (k + 1)).1 ++ xL.drop (k + 1), xd)] ++ bes.drop (i + 1)))) := by
                      have h := HT8.out
                      rw [mid_set HLEN.out, HSET.out] at h
                      exact h
                    go_wp2_with fail
                    go_meet
                    exact ⟨A5, fn, c5, HT9, TL8, KO8, KZ8, QE8, C08, C18, XR8, HB8, HH8, HG8⟩
                  case neg =>
                    have hRe : R = -1 := by rw [← HRR.out]; unfold rfI; rw [if_neg (by rw [HTLN.out]; exact hfound)]
                    subst hRe
                    obtain rfl : fb = false := by rw [← HFB.out]; decide
                    have hfe : fl = [] := by rw [HFL.out, fnd_none (by rw [HTLN.out]; exact hfound)]
                    have HT9 : Hid (TBb hi DD w7 base (some ⟨gE, 0, none⟩) n c3 ((thE b bes tl i).1 ++ ([((thS p xL T0 (k + 1)).1 ++ xL.drop (k + 1), xd)] ++ bes.drop (i + 1)))) := by
                      have h := TBb.below htq.out HB7.out
                      have e := HSET.out
                      rw [hfe, set_same HLK.out] at e
                      show TBb _ _ _ _ _ _ _ _
                      rw [← e]; exact h
                    have XR8 : Hid (rpU64.sl w7 (Tb T64 DD w7) A9 0 c9 fl) := by
                      show rpU64.sl _ _ _ _ _ _
                      rw [hfe]; exact Rp.sl_nil _ _ _ _ _ HC9.out
                    have HG8 := Lib.hid (Nat.lt_of_lt_of_le HGN.out.1 HB7.out.size)
                    clear hfe
                    go_wp2_with fail
                    go_meet
                    exact ⟨A9, 0, c9, HT9, TL7, KO7, KZ7, QE7, C0, C1, XR8, HBW7, HH7, HG8⟩
                case rest =>
                clear htq htl hk1 hk2 hcq hbel hhw HOL1 HB7 BG7 TL7 HBW7 C0 C1 QE7 KO7 KZ7 HH7 HD7 HDW HTURN HR0 HR1 HBG HGEL HQ0
                obtain ⟨A5, fn, c5, HT8, TL8, KO8, KZ8, QE8, C08, C18, XR8, HB8, HH8, HG8⟩ := hcut
                obtain ⟨w8, hw8⟩ : ∃ w8, w8 = wc := ⟨_, rfl⟩
                subst hw8
                have hpw := HPW.out
                have hiw := HIW.out
                have hbe : Below w8.heap.size w8 w8.drew := (Below.refl _ w8).drew
                have HBE := Lib.hid hbe
                have HD8 : Hid (∀ k, DD k → k < w8.heap.size) := fun k hk => Nat.lt_of_lt_of_le (HDD.out k hk) HB8.out.size
                have XRD := Lib.hid (tb_below XR8.out hbe)
                have hfn : fn ≤ 1000 := by have h := (Rp.sl_len XR8.out).1; omega
                have HEX := Lib.hid (rextend_any (s := ys) (p := p) XRD.out (fun k hk => hk.1) (show fn ≤ 1000000 by omega) (by omega))
                have HLAY : Hid (∀ u, Below w8.heap.size w8 u → u.cell? ⟨g, 0 + k * 2, none⟩ = some (.int .u64 (ys : Int)) ∧ u.cell? ⟨g, 0 + k * 2 + 1, none⟩ = some (.slice A5 fn c5) ∧ u.cell? ⟨go, 1, none⟩ = some (.int .u64 (b : Int)) ∧ u.cell? ⟨g, k * 2, none⟩ = some (.int .u64 (ys : Int)) ∧ u.cell? ⟨g, k * 2 + 1, none⟩ = some (.slice A5 fn c5)) := fun u hu => by
                  have a1 := (hu.cell (p := ⟨g, k * 2, none⟩) HG8.out).trans C08.out
                  have a2 := (hu.cell (p := ⟨g, k * 2 + 1, none⟩) HG8.out).trans C18.out
                  have a3 := (keepB KO8.out hu).cell 1
                  exact ⟨by rw [Nat.zero_add]; exact a1, by rw [Nat.zero_add]; exact a2, a3, a1, a2⟩
                have t0 := HLAY.out _ (Below.refl _ w8)
                have t1 := HLAY.out _ hbe
                have HY64 := Lib.hid hy64
                clear hbe
                go_upto_region 19 with (fail)
                go_region_held3 (fun w' => w'.cell? ⟨g, 0 + k * 2, none⟩ = some (.int .u64 (ys : Int)) ∧ w'.cell? ⟨g, 0 + k * 2 + 1, none⟩ = some (.slice A5 fn c5) ∧ w'.cell? ⟨go, 1, none⟩ = some (.int .u64 (b : Int)) ∧ w'.cell? ⟨g, k * 2, none⟩ = some (.int .u64 (ys : Int)) ∧ w'.cell? ⟨g, k * 2 + 1, none⟩ = some (.slice A5 fn c5))
                  (first | exact t0 | exact t1 | exact t2 | exact t3)
                  (first
                   | (go_at_call 43
                      refine HEX.out.mono ?_
                      rintro e w9 ⟨A6, n6, c6, rfl, hr9, hb9⟩
                      have HB9 := Lib.hid (stepB HBE.out hb9)
                      have HD9 : Hid (∀ k, DD k → k < w9.heap.size) := fun k hk => Nat.lt_of_lt_of_le (HD8.out k hk) HB9.out.size
                      have HWT := Lib.hid (rwith_any (s := ys) (TLs.below TL8.out HD8.out HB9.out) HD9.out (by omega) (hr9.sl (TS := T64) rfl DD) HY64.out)
                      have t2 := HLAY.out _ HB9.out
                      clear hr9 hb9)
                   | (go_at_call 42
                      refine HWT.out.mono ?_
                      rintro e w10 ⟨A7, n7, c7, rfl, ho10, hb10⟩
                      have HB10 := Lib.hid (stepB HB9.out hb10)
                      have HO10 := Lib.hid (OL.mono ho10 (show hi ≤ w9.heap.size from Nat.le_trans HH8.out HB9.out.size))
                      have t3 := HLAY.out _ HB10.out
                      clear ho10 hb10))
                have HO11 : Hid (TLs DD hi w10 A7 n7 c7 (thS p xL T0 (k + 1)).2) := by
                  show TLs _ _ _ _ _ _ _
                  rw [HSU.out]; exact .inr HO10.out
                have HT11 := Lib.hid (TBb.below HT8.out HB10.out)
                have KO11 := Lib.hid (keepB KO8.out HB10.out)
                have KZ11 := Lib.hid (keepB KZ8.out HB10.out)
                have hgel : gE < w8.heap.size := by
                  obtain ⟨gE', _, _, _, _, curE', e, _, hk, _⟩ := TB.at HT8.out.tb (mid_at HLEN.out)
                  injection e with e
                  injection e with e
                  subst e
                  exact hk.lt
                have QE11 := Lib.hid ((HB10.out.cell (p := ⟨gE, i * 2, none⟩) hgel).trans QE8.out)
                have HB11 := Lib.hid (stepB HB8.out HB10.out)
                have HH11 := Lib.hid (Nat.le_trans HH8.out HB10.out.size)
                clear hgel t0 t1 hpw hiw
                go_wp2_with fail
                go_roundw
                case rel => exact ⟨k + 1, n7, A7, c7, by omega, rfl, by go_num, HT11, HO11, KO11, KZ11, QE11, HB11, HH11⟩
                case measure => simp [intOf]; omega
end
end Go.Proofs.Ytcbmnfjbmkpfiaa
