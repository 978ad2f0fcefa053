/- locate.Nodes. -/
import Derived.Test.YtmdgmnaaopineaaSh3
import Derived.Test.YtmdgmnaaopineaaSr13
import Derived.Test.YtmdgmnaaopineaaLcM
namespace Go.Proofs.Ytmdgmnaaopineaa
open Go.ChangeShapes Go.WideShapes Go.ChangeAt Go.RowKit
set_option linter.unusedVariables false
def LNodesIs (l : List Stp) (w : World) (en : Ending) (w' : World) : Prop :=
  ∃ (A : Option Addr) (m c : Nat) (nd : List Nat), en = .returned (.slice A m c) ∧ nd.length = m ∧ w'.ownsRow w.heap.size 22 1 (.slice A m c) m (nd.map uv) ∧ NodesIs l nd ∧ Below w.heap.size w w'
section
variable {D : Dom} {A : Option Addr} {n c e : Nat} {l : List Stp} {w : World}
set_option maxRecDepth 100000 in
set_option maxHeartbeats 2000000 in
theorem lnodes_bad (hs : rpStp.sl w D A n c l) (hD : ∀ k, D k → k < w.heap.size) (he : e ≤ 18446744073709551615) (hok : ¬ POk (e, l)) :
    Calls Try.prog 70 #[.agg (prjV e A n c)] w fun en w' => en = .returned (.slice none 0 0) ∧ Below w.heap.size w w' := by
  have hb0 := below1 w (.cells (prjV e A n c) 25)
  have hr := pright_any (e := e) (Rp.sl_below hs hb0 hD) (fun k hk => Nat.lt_of_lt_of_le (hD k hk) hb0.size) he
  rw [dec_false hok] at hr
  have HR := Lib.hid hr
  have HB := Lib.hid hb0
  have HK := Lib.hid (blk11 w 25 (prjV e A n c))
  clear hs hD hb0 hr hok
  go_enter Try.func70, Try.ntmps70
  go_upto_region 1 with (fail)
  generalize World.alloc w _ = w0 at *
  have k0 := (show Blk w0 w.heap.size 25 _ from HK.out).cell 0
  have k1 := (show Blk w0 w.heap.size 25 _ from HK.out).cell 1
  go_wp2_with fail
  refine HR.out.mono ?_; rintro en w1 ⟨rfl, hb⟩
  go_wp2_with fail
  go_ret
  exact ⟨rfl, stepB HB.out hb⟩
set_option maxRecDepth 100000 in
set_option maxHeartbeats 4000000 in
theorem lnodes_any (hs : rpStp.sl w D A n c l) (hD : ∀ k, D k → k < w.heap.size) (he : e ≤ 18446744073709551615) (hok : POk (e, l)) :
    Calls Try.prog 70 #[.agg (prjV e A n c)] w (LNodesIs l w) := by
  have hb0 := below1 w (.cells (prjV e A n c) 25)
  have HSW := Lib.hid (show Sl rpStp w D A n c l from ⟨hs, hD⟩)
  have hlen := (Rp.sl_len hs).1
  have hn : n ≤ 64 := by have := hok.1.1.2.2; simp only at this; omega
  have hr := pright_any (e := e) (Rp.sl_below hs hb0 hD) (fun k hk => Nat.lt_of_lt_of_le (hD k hk) hb0.size) he
  rw [dec_true hok] at hr
  have HR := Lib.hid hr
  have HB := Lib.hid hb0
  have HK := Lib.hid (blk11 w 25 (prjV e A n c))
  have HN := Lib.hid hlen
  have HOK := Lib.hid hok
  clear hs hD hb0 hr hok hlen
  go_enter Try.func70, Try.ntmps70
  go_upto_region 1 with (fail)
  generalize World.alloc w _ = w0 at *
  have k0 := (show Blk w0 w.heap.size 25 _ from HK.out).cell 0
  have k1 := (show Blk w0 w.heap.size 25 _ from HK.out).cell 1
  go_wp2_with fail
  refine HR.out.mono ?_; rintro en w1 ⟨rfl, hb⟩
  have HB1 := Lib.hid (stepB HB.out hb)
  have hk1 := keepB (show Blk w0 w.heap.size 25 _ from HK.out) hb
  clear k0 k1 hb
  have k1 := hk1.cell 1
  clear hk1
  go_wp2_with fail
  clear k1
  go_loopw [3, 12] (fun v3 v12 wr => ∃ (k m : Nat) (As : Option Addr) (cs : Nat) (L : List Nat), k ≤ n ∧ v3 = .slice As m cs ∧ v12 = .int .i64 k ∧ Hid (L.length = m) ∧ Hid (wr.ownsRow w.heap.size 22 1 (.slice As m cs) m (L.map uv)) ∧ Hid (Gath l k L) ∧ Hid (Below w.heap.size w wr)) (fun _ v12 _ => n - (intOf v12).toNat)
  case atStart => exact ⟨0, 0, none, 0, [], by omega, rfl, rfl, rfl, World.ownsRow_nil _ _ _ _, gath_zero _, HB1.out⟩
  case round =>
    clear HK HB1
    obtain ⟨k, m, As, cs, L, hk, rfl, rfl, hL, hrow, hga, hbel⟩ := hrel
    have hzr := hbel.out.size
    have hm64 : m ≤ 64 * k := by have h1 := hga.out.1; have h2 := hL.out; omega
    by_cases hkn : k < n
    case neg =>
      obtain rfl : k = n := by omega
      have hd : decide ((k : Int) < (k : Int)) = false := by simp
      have hm : m < 65536 := by omega
      go_wp2_with fail
      refine (sort_own (l := L) hrow.out hm).mono ?_; rintro en w3 ⟨r, rfl, hp, hsr, ho, hc⟩
      have HB3 := Lib.hid (hbel.out.trans (hc.below hzr (fun k hk => (hrow.out.lt k hk.symm).1)))
      have HO3 := Lib.hid ho
      have HP := Lib.hid hp
      have HSR := Lib.hid hsr
      have hz3 := hc.size
      clear hp hsr ho hc
      go_wp2_with fail
      refine (compact_own (l := r) HO3.out hm).mono ?_; rintro en w4 ⟨rfl, ho, hc⟩
      have HB4 := Lib.hid (HB3.out.trans (hc.below (Nat.le_trans hzr hz3) (fun k hk => (HO3.out.lt k hk.symm).1)))
      have HO4 := Lib.hid ho
      clear ho hc
      go_wp2_with fail
      go_ret
      have hcs := cpl_sorted HSR.out
      exact ⟨As, _, cs, cpl r, rfl, rfl, HO4.out, nodesIs_of HN.out hga.out HP.out hcs.1 hcs.2, HB4.out⟩
    case pos =>
      have hd : decide ((k : Int) < (n : Int)) = true := by simp; omega
      have hkI : (0 : Int) ≤ (k : Int) := by omega
      have hkI2 : (k : Int) < (n : Int) := by omega
      have hsr := keepS HSW.out hbel.out
      obtain ⟨bo, off, s, A3, c3, rfl, hbD, hx, g0, g1, g2, hro, hs1, hs2⟩ := stps_at hsr.1 hkn
      have hso : SOk s := (HOK.out.1.2 k s (List.getElem?_eq_some_iff.1 hx).1 hx).1
      obtain ⟨sf, hsf⟩ : ∃ sf, sf = s.1 := ⟨_, rfl⟩
      obtain ⟨st, hst⟩ : ∃ st, st = s.2.1 := ⟨_, rfl⟩
      obtain ⟨ss, hss⟩ : ∃ ss, ss = s.2.2 := ⟨_, rfl⟩
      have es : s = (sf, st, ss) := by rw [hsf, hst, hss]
      rw [← hsf] at g0 hs1
      rw [← hst] at g1 hs2
      rw [← hss] at g2 hro
      subst es
      have HX := Lib.hid hx
      have HSO := Lib.hid hso
      obtain ⟨sn, hsn⟩ : ∃ sn, sn = ss.length := ⟨_, rfl⟩
      rw [← hsn] at g2 hro
      have hba := below1 wr (.cells (stpV sf st A3 sn c3) 31)
      have HRW := Lib.hid (keepS (show Sl (rpSlice rpU64) wr _ A3 sn c3 ss from ⟨hro, hsr.2⟩) hba)
      have HKS := Lib.hid (blk11 wr 31 (stpV sf st A3 sn c3))
      have HBA := Lib.hid hba
      clear hx hro hsr hsf hst hss hba hso hsn
      go_wp2_with fail
      generalize World.alloc wr _ = w4 at *
      have hz4 := HBA.out.size
      have v0 := (show Blk w4 _ _ _ from HKS.out).cell 0
      have v1 := (show Blk w4 _ _ _ from HKS.out).cell 1
      have v2 := (show Blk w4 _ _ _ from HKS.out).cell 2
      clear g0 g1 g2
      go_wp2_with fail
      refine (stnodes_any HRW.out.1 HRW.out.2 HSO.out hs1 hs2).mono ?_; rintro en w5 ⟨A5, c5, r, rfl, hor, hp, hrs, hb5⟩
      have hb45 := stepB HBA.out hb5
      have HOV := Lib.hid (keepO hrow.out hb45)
      have HSR := Lib.hid (Src.u64 (own_u64 hor (fun y hy => sok_lt HSO.out y (hp.mem_iff.1 hy))))
      have HB5 := Lib.hid (stepB hbel.out hb45)
      have HG := Lib.hid (gath_succ hga.out HX.out HSO.out hp)
      have hz5 := HB5.out.size
      have hr64 : r.length ≤ 64 := by rw [hp.length_eq]; exact sok_flat (f := sf) (t := st) HSO.out
      obtain ⟨m2, hm2⟩ : ∃ m2, m2 = r.length := ⟨_, rfl⟩
      rw [← hm2] at HSR hr64
      rw [← hm2]
      have HM2 := Lib.hid hm2
      clear hor hp hrs hb5 hb45 v0 v1 v2 hm2
      go_wp2_with (at_builtin; refine wpList_app rfl (.tmp 16) (.tmp 18) _ rfl elemC8 rfl HOV.out rfl HSR.out (by unfold maxLen; omega) (by omega) hz5 ?_; intro A6 c6 w6 ho6 hg6 hat6
                   have HO6 := Lib.hid ho6
                   have HB6 := Lib.hid (HB5.out.grown hg6 hz5 (fun q hq => (HOV.out.lt q hq).1))
                   clear ho6 hg6 hat6)
      have HLL : Hid ((L ++ r).length = m + m2) := by show _ = _; rw [List.length_append, hL.out, HM2.out]
      have HOO : Hid (w6.ownsRow w.heap.size 22 1 (.slice A6 (m + m2) c6) (m + m2) ((L ++ r).map uv)) := by
        show w6.ownsRow _ _ _ _ _ _
        rw [List.map_append]; exact HO6.out
      go_roundw
      case rel => exact ⟨k + 1, m + m2, A6, c6, L ++ r, by omega, rfl, by go_num, HLL, HOO, HG, HB6⟩
      case measure => simp [intOf]; omega
end
end Go.Proofs.Ytmdgmnaaopineaa
