/- The document's bare. -/
import Derived.Test.YtcbmnfjbmkpfiaaPkTo
import Derived.Test.YtcbmnfjbmkpfiaaPkP
namespace Go.Proofs.Ytcbmnfjbmkpfiaa
open Go.ChangeShapes Go.WideShapes Go.ChangeAt Go.RowKit
set_option linter.unusedVariables false
theorem ent_b64x {w : World} {D : Dom} {A : Option Addr} {n c : Nat} {es : List Ent} (h : rpEnt.sl w D A n c es) : ∀ e ∈ es, ∀ x ∈ e.1, x.1 ≤ 18446744073709551615 := fun e he x hx => by
  obtain ⟨i, hi⟩ := List.getElem?_of_mem he
  have hin : i < n := by have := (Rp.sl_len h).1; have := (List.getElem?_eq_some_iff.1 hi).1; omega
  obtain ⟨b, off, e', A', c', B, d, hA, hb, hx', _, _, hl, _⟩ := ent_at h hin
  rw [hi] at hx'
  injection hx' with hx'
  subst hx'
  obtain ⟨k, hk⟩ := List.getElem?_of_mem hx
  obtain ⟨bo, off, x', A3, c3, _, _, hy, _, _, _, h64⟩ := lnk_at hl (k := k) (List.getElem?_eq_some_iff.1 hk).1
  rw [hk] at hy
  injection hy with hy
  subst hy
  omega
section
variable {D : Dom} {A : Option Addr} {n c ep b : Nat} {es : List Ent} {w : World}
set_option maxRecDepth 100000 in
set_option maxHeartbeats 8000000 in
theorem rbare_any (hs : rpEnt.sl w D A n c es) (hD : ∀ k, D k → k < w.heap.size) (hE : EBd es) :
    Calls Try.prog 40 #[.agg (batV ep b A n c)] w fun e w' => ∃ A' c', e = .returned (.agg (batV ep b A' n c')) ∧ TB D w' w.heap.size A' n c' (bareL es) ∧ Below w.heap.size w w' := by
  have hb2 := below3 w (.cells (batV ep b A n c) 25) (.cells zB 25) (.cells (batV ep b none 0 0) 25)
  have HB2 := Lib.hid hb2
  have K1 := Lib.hid (blk31 w 25 25 25 (batV ep b A n c) zB (batV ep b none 0 0))
  have K2 := Lib.hid (blk32 w 25 25 25 (batV ep b A n c) zB (batV ep b none 0 0))
  have K3 := Lib.hid (blk33 w 25 25 25 (batV ep b A n c) zB (batV ep b none 0 0))
  have k10 := (blk21 w 25 25 (batV ep b A n c) zB).cell 0
  have k11 := (blk21 w 25 25 (batV ep b A n c) zB).cell 1
  have S0 := Lib.hid (show Sl rpEnt w D A n c es from ⟨hs, hD⟩)
  have HN := Lib.hid (Rp.sl_len hs).1
  have HE := Lib.hid hE
  have hn1 : n ≤ 1000 := by rw [← HN.out]; exact hE.1
  have HSZ : Hid ((Try.prog.info? 25).map (·.size) = some 3) := by show _ = _; kernel_rfl
  obtain ⟨gz, hgz⟩ : ∃ gz, gz = w.heap.size := ⟨_, rfl⟩
  rw [← hgz] at K1 K2 K3
  have HGZ := Lib.hid hgz
  have HDZ : Hid (∀ k, D k → k < gz) := fun k hk => by rw [hgz]; exact hD k hk
  have S2 := Lib.hid (keepS S0.out hb2)
  have H64 := Lib.hid (ent_b64x hs)
  clear hs hD hb2 hE
  go_enter Try.func40, Try.ntmps40
  go_upto_region 2 with (fail)
  rw [← hgz]
  clear hgz k10 k11
  generalize World.alloc (World.alloc (World.alloc w _) _) _ = w3 at *
  go_wp2_with fail
  go_loopw [4] (fun v4 wr => ∃ (i : Nat) (Ao : Option Addr) (co : Nat), i ≤ n ∧ v4 = .int .i64 (i : Int) ∧ Hid (TB D wr w.heap.size Ao i co (bareL (es.take i))) ∧ Hid (Blk wr gz 25 (batV ep b A n c)) ∧ Hid (Blk wr (gz + 1) 25 zB) ∧ Hid (Blk wr (gz + 1 + 1) 25 (batV ep b Ao i co)) ∧ Hid (Below w.heap.size w wr)) (fun v4 _ => n - (intOf v4).toNat)
  case atStart => exact ⟨0, none, 0, by omega, rfl, TB.nil _ _ _, K1.out, K2.out, K3.out, HB2.out⟩
  case round =>
    clear K1 K2 K3 HB2 S2
    obtain ⟨i, Ao, co, hi, rfl, htb, hk1, hk2, hk3, hbel⟩ := hrel
    have z2 := (show Blk wr gz 25 (batV ep b A n c) from hk1.out).cell 2
    have HZR := Lib.hid hbel.out.size
    by_cases hin : i < n
    case neg =>
      obtain rfl : i = n := by omega
      have hd : decide ((i : Int) < (i : Int)) = false := by simp
      have HT : Hid (TB D wr w.heap.size Ao i co (bareL es)) := by
        have h := htb.out
        rw [List.take_of_length_le (by have := HN.out; omega)] at h
        exact h
      have a0 := (show Blk wr (gz + 1 + 1) 25 (batV ep b Ao i co) from hk3.out).cell 0
      have a1 := (show Blk wr (gz + 1 + 1) 25 (batV ep b Ao i co) from hk3.out).cell 1
      have a2 := (show Blk wr (gz + 1 + 1) 25 (batV ep b Ao i co) from hk3.out).cell 2
      go_wp2_with (refine wpList_put_row rfl 25 (.tmp 2) (.tmp 59) rfl (gz + 1) (batV ep b Ao i co) rfl rfl 25 _ hk2.out HSZ.out rfl (by simp [Value.oneCell']) ?_; intro w6 hblk hgr)
      try rw [Exit.noGoto_ret]
      have x0 := (show Blk w6 (gz + 1) 25 (batV ep b Ao i co) from hblk).cell 0
      have x1 := (show Blk w6 (gz + 1) 25 (batV ep b Ao i co) from hblk).cell 1
      have x2 := (show Blk w6 (gz + 1) 25 (batV ep b Ao i co) from hblk).cell 2
      refine bodyPost_ret (v := .agg (batV ep b Ao i co)) (by simp [results, Try.results40, go_sem, x0, x1, x2]) rfl ⟨Ao, co, rfl, TB.turned HT.out hk2.out (by unfold TD; decide) (fun h => by have := HDZ.out _ h; omega) (.inl ⟨by decide, by decide⟩) hgr, hbel.out.grown hgr HZR.out (fun q hq => by have e' : gz + 1 = q := Option.some.inj hq; have := HGZ.out; omega)⟩
    case pos =>
      have hd : decide ((i : Int) < (n : Int)) = true := by simp; omega
      have hiI : (0 : Int) ≤ (i : Int) := by omega
      have hiI2 : (i : Int) < (n : Int) := by omega
      have hsr := keepS S0.out hbel.out
      obtain ⟨bo, off, x, A3, c3, B3, d3, rfl, hbD, hx, g0, g1, hrow, hdat⟩ := ent_at hsr.1 hin
      obtain ⟨xL, xd⟩ := x
      simp only at g0 g1 hrow hdat
      have HX := Lib.hid hx
      obtain ⟨xn, hxn⟩ : ∃ xn, xn = xL.length := ⟨_, rfl⟩
      obtain ⟨dn, hdn⟩ : ∃ dn, dn = xd.length := ⟨_, rfl⟩
      rw [← hxn] at g0 hrow
      rw [← hdn] at g1 hdat
      have HXN := Lib.hid hxn
      have HDN := Lib.hid hdn
      have hxn1 : xn ≤ 1000 := by rw [hxn]; exact (HE.out.2 _ (List.mem_of_getElem? hx)).1
      have HX64 := Lib.hid (H64.out _ (List.mem_of_getElem? hx))
      have HROW := Lib.hid (show Sl rpLnk wr D A3 xn c3 xL from ⟨hrow, hsr.2⟩)
      have HDAT := Lib.hid (show Sl rpU8 wr D B3 dn d3 xd from ⟨hdat, hsr.2⟩)
      have HDB := Lib.hid (hsr.2 _ hbD)
      have G0 := Lib.hid g0
      obtain ⟨ge, hge⟩ : ∃ ge, ge = wr.heap.size := ⟨_, rfl⟩
      have HGE := Lib.hid hge
      have hba := below1 wr (.cells (entV none 0 0 B3 dn d3) 45)
      have HBA := Lib.hid hba
      have KE := Lib.hid (blk11 wr 45 (entV none 0 0 B3 dn d3))
      rw [← hge] at KE
      have HO0 := Lib.hid (OL.nil rpLnk T64 D 57 (wr.alloc (.cells (entV none 0 0 B3 dn d3) 45)) wr.heap.size)
      have HKZ := Lib.hid (show Blk wr gz 25 (batV ep b (some ⟨bo, off, none⟩) n c) from hk1.out)
      clear hrow hdat hbD hx hsr hba hxn hdn
      go_upto_region 6 with (fail)
      rw [← hge]
      clear hge z2 g0 g1
      obtain ⟨w0, hw0⟩ : ∃ w0, w0 = wr := ⟨_, rfl⟩
      subst hw0
      generalize World.alloc w0 _ = w4 at *
      go_wp2_with fail
      go_loopw [6] (fun v6 wq => ∃ (k : Nat) (Al : Option Addr) (cl : Nat), k ≤ xn ∧ v6 = .int .i64 (k : Int) ∧ Hid (OLd D wq w0.heap.size Al k cl ((xL.take k).map nilB)) ∧ Hid (Blk wq ge 45 (entV Al k cl B3 dn d3)) ∧ Hid (Below w0.heap.size w0 wq)) (fun v6 _ => xn - (intOf v6).toNat)
      case atStart => exact ⟨0, none, 0, by omega, rfl, HO0.out, KE.out, HBA.out⟩
      case round =>
        clear HO0 KE HBA
        obtain ⟨k, Al, cl, hk, rfl, hol, hke, hbq⟩ := hrel
        have z2 := (keepB HKZ.out hbq.out).cell 2
        have g0 := (hbq.out.cell (p := ⟨bo, off + i * 2, none⟩) HDB.out).trans G0.out
        by_cases hkn : k < xn
        case neg =>
          obtain rfl : k = xn := by omega
          have hd2 : decide ((k : Int) < (k : Int)) = false := by simp
          have hl1 : (bareE (xL, xd)).1.length = k := by show (xL.map _).length = k; rw [List.length_map]; exact HXN.out.symm
          have hl2 : (bareE (xL, xd)).2.length = dn := HDN.out.symm
          have HL1 := Lib.hid hl1
          have HL2 := Lib.hid hl2
          have e0 := (show Blk wr ge 45 (entV Al k cl B3 dn d3) from hke.out).cell 0
          have e1 := (show Blk wr ge 45 (entV Al k cl B3 dn d3) from hke.out).cell 1
          have o2 := (keepB (show Blk w0 (gz + 1 + 1) 25 (batV ep b Ao i co) from hk3.out) hbq.out).cell 2
          have hba := below1 wr (.cells (entV Al k cl B3 dn d3) 45)
          have HBA := Lib.hid (stepB hbq.out hba)
          obtain ⟨vals, rv, htv⟩ := htb.out
          have HTV := Lib.hid htv
          have HOV := Lib.hid (htv.below HBA.out).1
          obtain ⟨valsL, hov, hon, hvv⟩ := OL.below hol.out hba
          have HOVL := Lib.hid hov
          have HVVL := Lib.hid hvv
          have HSRC := Lib.hid (Src.blk (size := 2) (blk11 wr 45 (entV Al k cl B3 dn d3)) rfl (by
            intro u hu
            simp only [List.mem_cons, List.not_mem_nil, or_false] at hu
            rcases hu with rfl | rfl <;> rfl))
          have HDA := Lib.hid (keepS HDAT.out HBA.out)
          have HBS := Lib.hid (show w.heap.size ≤ _ from Nat.le_trans HZR.out HBA.out.size)
          have KO := Lib.hid (keepB (show Blk w0 (gz + 1 + 1) 25 (batV ep b Ao i co) from hk3.out) HBA.out)
          have HNO : Hid (some (gz + 1 + 1) ≠ (Value.slice Ao i co).ownBlock) := fun e => by
            obtain ⟨cs', hcs⟩ := own_type HOV.out e.symm
            exact absurd (blk_type KO.out hcs) (by decide)
          have HNF : Hid (∀ g cs, Blk w0 g 25 cs → some g ≠ (Value.slice Ao i co).ownBlock) := fun g cs hb e => by
            obtain ⟨cs', hcs⟩ := own_type HTV.out.1 e.symm
            exact absurd (blk_type hb hcs) (by decide)
          clear hl1 hl2 hba htv hov hon hvv
          go_wp2_with
            (at_builtin; refine wpList_app rfl (.tmp 54) (.tmp 56) _ rfl elemEnt (by rfl) HOV.out (by rfl) HSRC.out (by unfold maxLen; omega) (by omega) HBS.out ?_; intro A6 c6 w6 ho6 hg6 hat6
             have HP6 : Hid (TB D w6 w.heap.size A6 (i + 1) c6 (bareL (es.take i) ++ [bareE (xL, xd)])) := TBv.push (e := bareE (xL, xd)) (rvE := valsL) (A' := Al) (c' := cl) (B := B3) (d := d3) HTV.out HBA.out (fun k hk => by rw [← HGZ.out]; exact HDZ.out k hk) HZR.out (by rw [HL1.out, HL2.out]; exact ho6) hg6
               (by rw [HL1.out]; exact HOVL.out)
               (by rw [HL2.out]; exact Rp.sl_more HDA.out.1 (fun k hk => ⟨HDA.out.2 k hk, .inl hk⟩))
               (fun k x hx => by
                 have e : (bareE (xL, xd)).1 = (xL.take xL.length).map nilB := by rw [List.take_of_length_le (Nat.le_refl _)]; rfl
                 rw [e, ← HXN.out] at hx
                 obtain ⟨cs, h1, h2⟩ := HVVL.out k x hx
                 exact ⟨cs, rpLnk.more h1 (fun k hk => ⟨hk.1, hk.2.elim .inl (fun ⟨cs, t, h1, h2⟩ => .inr ⟨cs, t, h1, .inl h2⟩)⟩), h2⟩)
             have K6 := Lib.hid (KO.out.grown hg6 HNO.out)
             have HF6 : Hid (∀ g cs, Blk w0 g 25 cs → Blk w6 g 25 cs) := fun g cs hb => (keepB hb HBA.out).grown hg6 (HNF.out g cs hb)
             have HB6 := Lib.hid ((hbel.out.trans (HBA.out.mono HZR.out)).grown hg6 HBS.out (fun q hq => (HOV.out.lt q hq).1))
             have o6 := (show Blk w6 (gz + 1 + 1) 25 (batV ep b Ao i co) from K6.out).cell 2
             have of6 := (show Blk w6 (gz + 1 + 1) 25 (batV ep b Ao i co) from K6.out).frozen 2
             clear ho6 hg6 hat6)
          have hgr : w6.grownBy (w6.setCell ⟨gz + 1 + 1, 2, none⟩ (.slice A6 (i + 1) c6)) (some (gz + 1 + 1)) := grown_setCell w6 ⟨gz + 1 + 1, 2, none⟩ _
          have K7 : Hid (Blk (w6.setCell ⟨gz + 1 + 1, 2, none⟩ (.slice A6 (i + 1) c6)) (gz + 1 + 1) 25 (batV ep b A6 (i + 1) c6)) := (show Blk w6 (gz + 1 + 1) 25 (batV ep b Ao i co) from K6.out).put 2 _
          have Z7 := Lib.hid ((HF6.out _ _ HKZ.out).far (p := ⟨gz + 1 + 1, 2, none⟩) (by show gz ≠ gz + 1 + 1; omega) (.slice A6 (i + 1) c6))
          have Y7 := Lib.hid ((HF6.out _ _ (show Blk w0 (gz + 1) 25 zB from hk2.out)).far (p := ⟨gz + 1 + 1, 2, none⟩) (by show gz + 1 ≠ gz + 1 + 1; omega) (.slice A6 (i + 1) c6))
          have T7 : Hid (TB D (w6.setCell ⟨gz + 1 + 1, 2, none⟩ (.slice A6 (i + 1) c6)) w.heap.size A6 (i + 1) c6 (bareL (es.take (i + 1)))) := by
            have h := TB.turned HP6.out K6.out (by unfold TD; decide) (fun h => by have := HDZ.out _ h; omega) (.inl ⟨by decide, by decide⟩) hgr
            have e : bareL (es.take (i + 1)) = bareL (es.take i) ++ [bareE (xL, xd)] := by
              unfold bareL
              rw [List.take_add_one, HX.out, Option.toList_some, List.map_append]
              rfl
            show TB _ _ _ _ _ _ _
            rw [e]; exact h
          have HB7 := Lib.hid (HB6.out.grown hgr HB6.out.size (fun q hq => by have e' : gz + 1 + 1 = q := Option.some.inj hq; have := HGZ.out; omega))
          clear hgr
          go_roundw
          case rel => exact ⟨i + 1, A6, c6, by omega, by go_num, T7, Z7, Y7, K7, HB7⟩
          case measure => simp [intOf]; omega
        case pos =>
          have hd2 : decide ((k : Int) < (xn : Int)) = true := by simp; omega
          have hkI : (0 : Int) ≤ (k : Int) := by omega
          have hkI2 : (k : Int) < (xn : Int) := by omega
          have hrw := keepS HROW.out hbq.out
          obtain ⟨bo2, off2, y, A4, c4, rfl, hyD, hy, q0, q1, hyr, hy64⟩ := lnk_at hrw.1 hkn
          obtain ⟨ys, yl⟩ := y
          simp only at q0 q1 hyr hy64
          have HY := Lib.hid hy
          have hbl2 := hrw.2 _ hyD
          have e0 := (show Blk wr ge 45 (entV Al k cl B3 dn d3) from hke.out).cell 0
          clear hyr hy hyD q1 hrw
          go_upto_region 9 with (fail)
          have hbe : Below wr.heap.size wr wr.drew := (Below.refl _ wr).drew
          have hbd : Below wr.heap.size wr (wr.drew.alloc (.cells (lkV ys none 0 0) 57)) := hbe.alloc (Nat.le_refl _) _
          have z2d := (hbe.cell (p := ⟨gz, 2, none⟩) (Nat.lt_of_lt_of_le HKZ.out.lt hbq.out.size)).trans z2
          have g0d := (hbe.cell (p := ⟨bo, off + i * 2, none⟩) (Nat.lt_of_lt_of_le HDB.out hbq.out.size)).trans g0
          have q0d := (hbe.cell (p := ⟨bo2, off2 + k * 2, none⟩) hbl2).trans q0
          have e0d := (hbe.cell (p := ⟨ge, 0, none⟩) (show Blk wr ge 45 _ from hke.out).lt).trans e0
          have e0a : (wr.alloc (.cells (lkV ys none 0 0) 57)).drew.cell? ⟨ge, 0, none⟩ = some (.slice Al k cl) := (hbd.cell (p := ⟨ge, 0, none⟩) (show Blk wr ge 45 _ from hke.out).lt).trans e0
          have HOD := Lib.hid (OL.below hol.out hbe)
          have KED := Lib.hid (keepB (show Blk wr ge 45 (entV Al k cl B3 dn d3) from hke.out) hbe)
          have HBD := Lib.hid (stepB hbq.out hbe)
          obtain ⟨valsP, p1, p2, p3, p4⟩ := link_push HOD.out (show w0.heap.size ≤ wr.drew.heap.size from HBD.out.size) (fun k hk => Nat.lt_of_lt_of_le (HDZ.out k hk) (by rw [HGZ.out]; exact HZR.out)) (Rp.sl_nil rpU64 wr.drew (Tb T64 D wr.drew) none 0 (by decide)) hy64
          have P1 := Lib.hid p1
          have P2 := Lib.hid p2
          have P3 := Lib.hid p3
          have P4 := Lib.hid p4
          clear p1 p2 p3 p4 hbe hbd
          go_region_law ((refine step_app rfl (.tmp 38) (.tmp 50) _ (by rfl) elemLink (by rfl) P1.out (by rfl) P2.out (by unfold maxLen; omega) (by omega) P3.out ?_
                          intro A6 c6 w6 ho6 hg6 hat6
                          have hq := P4.out A6 c6 w6 ho6 hg6
                          have O6 := Lib.hid hq.1
                          have B6 := Lib.hid hq.2.1
                          have K6 := Lib.hid (hq.2.2 _ _ _ KED.out (by decide))
                          have o6 := (show Blk w6 ge 45 (entV Al k cl B3 dn d3) from K6.out).cell 0
                          have of6 := (show Blk w6 ge 45 (entV Al k cl B3 dn d3) from K6.out).frozen 0
                          clear ho6 hg6 hat6 hq))
          all_goals
            have K7 : Hid (Blk (w6.setCell ⟨ge, 0, none⟩ (.slice A6 (k + 1) c6)) ge 45 (entV A6 (k + 1) c6 B3 dn d3)) := (show Blk w6 ge 45 (entV Al k cl B3 dn d3) from K6.out).put 0 _
            have O7 : Hid (OLd D (w6.setCell ⟨ge, 0, none⟩ (.slice A6 (k + 1) c6)) w0.heap.size A6 (k + 1) c6 ((xL.take (k + 1)).map nilB)) := by
              show OLd _ _ _ _ _ _ _
              rw [List.take_add_one, HY.out, Option.toList_some, List.map_append]
              exact OL.put O6.out (show Blk w6 ge 45 (entV Al k cl B3 dn d3) from K6.out) (fun h => by have := HDZ.out _ h; have := HGE.out; have := HZR.out; have := HGZ.out; omega) (by unfold T64; decide) (by decide) (a := ⟨ge, 0, none⟩) rfl _
            have B7 := Lib.hid ((HBD.out.trans B6.out).setCell (p := ⟨ge, 0, none⟩) (by have := HGE.out; show w0.heap.size ≤ ge; omega) (.slice A6 (k + 1) c6))
            go_wp2_with fail
            go_roundw
            case rel => exact ⟨k + 1, A6, c6, by omega, by go_num, O7, K7, B7⟩
            case measure => simp [intOf]; omega
end
end Go.Proofs.Ytcbmnfjbmkpfiaa
