/- locate.Count. -/
import Derived.Test.YtmdgmnaaopineaaSh4
import Derived.Test.YtmdgmnaaopineaaLcM
import Derived.Test.YtmdgmnaaopineaaStp5
namespace Go.Proofs.Ytmdgmnaaopineaa
open Go.ChangeShapes Go.WideShapes Go.ChangeAt Go.RowKit
set_option linter.unusedVariables false
section
variable {D : Dom} {A : Option Addr} {n c e x B : Nat} {l : List Stp} {w : World}
set_option maxRecDepth 100000 in
set_option maxHeartbeats 2000000 in
theorem lcount_bad (x B : Nat) (hs : rpStp.sl w D A n c l) (hD : ∀ k, D k → k < w.heap.size) (he : e ≤ 18446744073709551615) (hok : ¬ POk (e, l)) :
    Calls Try.prog 71 #[.agg (prjV e A n c), .int .u64 (x : Int), .int .u64 (B : Int)] w fun en w' => en = .returned (.int .u64 0) ∧ Below w.heap.size w w' := by
  have hb0 := below1 w (.cells (prjV e A n c) 25)
  have hr := pright_any (e := e) (Rp.sl_below hs hb0 hD) (fun k hk => Nat.lt_of_lt_of_le (hD k hk) hb0.size) he
  rw [dec_false hok] at hr
  have HR := Lib.hid hr
  have HB := Lib.hid hb0
  have HK := Lib.hid (blk11 w 25 (prjV e A n c))
  clear hs hD hb0 hr hok
  go_enter Try.func71, Try.ntmps71
  go_upto_region 1 with (fail)
  generalize World.alloc w _ = w0 at *
  have k0 := (show Blk w0 w.heap.size 25 _ from HK.out).cell 0
  have k1 := (show Blk w0 w.heap.size 25 _ from HK.out).cell 1
  go_wp2_with fail
  refine HR.out.mono ?_; rintro en w1 ⟨rfl, hb⟩
  go_wp2_with fail
  go_ret
  exact ⟨rfl, stepB HB.out hb⟩
theorem cntTo_le (k : Nat) : cntTo l x B k ≤ startOf l k := Nat.le_trans (cnt_le _ _ _) (Nat.min_le_right _ _)
set_option maxRecDepth 100000 in
set_option maxHeartbeats 4000000 in
theorem lcount_any (hs : rpStp.sl w D A n c l) (hD : ∀ k, D k → k < w.heap.size) (he : e ≤ 18446744073709551615) (hok : POk (e, l)) (hBB : B ≤ 18446744073709551615) {N : Nat} (hN : N = cnt l x (min B 4611686018427387904)) :
    Calls Try.prog 71 #[.agg (prjV e A n c), .int .u64 (x : Int), .int .u64 (B : Int)] w fun en w' => en = .returned (.int .u64 (N : Int)) ∧ Below w.heap.size w w' := by
  have hb0 := below1 w (.cells (prjV e A n c) 25)
  have HSW := Lib.hid (show Sl rpStp w D A n c l from ⟨hs, hD⟩)
  have hlen := (Rp.sl_len hs).1
  have hn : n ≤ 64 := by have := hok.1.1.2.2; simp only at this; omega
  have hr := pright_any (e := e) (Rp.sl_below hs hb0 hD) (fun k hk => Nat.lt_of_lt_of_le (hD k hk) hb0.size) he
  rw [dec_true hok] at hr
  have HR := Lib.hid hr
  have HB := Lib.hid hb0
  have HK := Lib.hid (blk11 w 25 (prjV e A n c))
  have HN := Lib.hid hlen
  have HOK := Lib.hid hok
  have HNN := Lib.hid hN
  clear hs hD hb0 hr hok hlen hN
  go_enter Try.func71, Try.ntmps71
  go_upto_region 1 with (fail)
  generalize World.alloc w _ = w0 at *
  have k0 := (show Blk w0 w.heap.size 25 _ from HK.out).cell 0
  have k1 := (show Blk w0 w.heap.size 25 _ from HK.out).cell 1
  go_wp2_with fail
  refine HR.out.mono ?_; rintro en w1 ⟨rfl, hb⟩
  have HB1 := Lib.hid (stepB HB.out hb)
  have hk1 := keepB (show Blk w0 w.heap.size 25 _ from HK.out) hb
  clear k0 k1 hb
  have k1 := hk1.cell 1
  clear hk1
  go_wp2_with fail
  clear k1
  go_loopw [7, 18] (fun v7 v18 wr => ∃ (k S : Nat), k ≤ n ∧ v7 = .int .u64 (S : Int) ∧ v18 = .int .i64 k ∧ Hid (S = cntTo l x B k) ∧ Hid (Below w.heap.size w wr)) (fun _ v18 _ => n - (intOf v18).toNat)
  case atStart => exact ⟨0, 0, by omega, rfl, rfl, (cntTo_zero B).symm, HB1.out⟩
  case round =>
    clear HK HB1
    obtain ⟨k, S, hk, rfl, rfl, hS, hbel⟩ := hrel
    have hzr := hbel.out.size
    by_cases hkn : k < n
    case neg =>
      obtain rfl : k = n := by omega
      have hd : decide ((k : Int) < (k : Int)) = false := by simp
      go_wp2_with fail
      go_ret
      refine ⟨?_, hbel.out⟩
      have h1 := cntTo_end (x := x) B HOK.out
      rw [HN.out, ← hS.out, ← HNN.out] at h1
      rw [h1]; rfl
    case pos =>
      have hd : decide ((k : Int) < (n : Int)) = true := by simp; omega
      have hkI : (0 : Int) ≤ (k : Int) := by omega
      have hkI2 : (k : Int) < (n : Int) := by omega
      obtain ⟨bo, off, s, A3, c3, rfl, hbD, hx, g0, g1, g2, hro, hs1, hs2⟩ := stps_at HSW.out.1 hkn
      have hso : SOk s := (HOK.out.1.2 k s (List.getElem?_eq_some_iff.1 hx).1 hx).1
      have hst1 := startOf_succ hx
      obtain ⟨sf, hsf⟩ : ∃ sf, sf = s.1 := ⟨_, rfl⟩
      obtain ⟨st, hst⟩ : ∃ st, st = s.2.1 := ⟨_, rfl⟩
      obtain ⟨ss, hss⟩ : ∃ ss, ss = s.2.2 := ⟨_, rfl⟩
      have es : s = (sf, st, ss) := by rw [hsf, hst, hss]
      rw [← hsf] at g0 hs1
      rw [← hst] at g1 hs2
      rw [← hss] at g2 hro
      subst es
      have HX := Lib.hid hx
      have HSO := Lib.hid hso
      obtain ⟨sn, hsn⟩ : ∃ sn, sn = ss.length := ⟨_, rfl⟩
      rw [← hsn] at g2 hro
      have HSN := Lib.hid hsn
      have HST := Lib.hid hst1
      have hba := below1 wr (.cells (stpV sf st A3 sn c3) 31)
      have HRO := Lib.hid (show Sl (rpSlice rpU64) w D A3 sn c3 ss from ⟨hro, HSW.out.2⟩)
      have hboz := HSW.out.2 bo hbD
      replace g0 := (hbel.out.cell (p := ⟨bo, off + k * 3, none⟩) hboz).trans g0
      replace g1 := (hbel.out.cell (p := ⟨bo, off + k * 3 + 1, none⟩) hboz).trans g1
      replace g2 := (hbel.out.cell (p := ⟨bo, off + k * 3 + 2, none⟩) hboz).trans g2
      have HRW := Lib.hid (keepS HRO.out (stepB hbel.out hba))
      have HKS := Lib.hid (blk11 wr 31 (stpV sf st A3 sn c3))
      have HBA := Lib.hid hba
      clear hx hro hsf hst hss hba hso hsn hst1 hbD hboz
      go_wp2_with fail
      generalize World.alloc wr _ = w4 at *
      have hz4 := HBA.out.size
      have v0 := (show Blk w4 _ _ _ from HKS.out).cell 0
      have v1 := (show Blk w4 _ _ _ from HKS.out).cell 1
      have v2 := (show Blk w4 _ _ _ from HKS.out).cell 2
      clear g0 g1 g2
      go_wp2_with fail
      refine (stset_any (x := x) HRW.out.1 HRW.out.2 HSO.out hs1 hs2).mono ?_; rintro en w5 ⟨i, q, rfl, hat, hb5⟩
      have HAT := Lib.hid hat
      have HB5 := Lib.hid (stepB hbel.out (stepB HBA.out hb5))
      have HKS5 := Lib.hid (keepB (show Blk w4 wr.heap.size 31 _ from HKS.out) hb5)
      have HRW5 := Lib.hid (keepS HRW.out hb5)
      clear v0 v1 v2 hat hb5
      have v0 := (show Blk w5 _ _ _ from HKS5.out).cell 0
      have v1 := (show Blk w5 _ _ _ from HKS5.out).cell 1
      cases q
      case false =>
        have HC := Lib.hid (hS.out.trans (cntTo_none HOK.out HX.out HAT.out (.inl rfl)).symm)
        go_wp2_with fail
        go_roundw
        case rel => exact ⟨k + 1, S, by omega, rfl, by go_num, HC, HB5⟩
        case measure => simp [intOf]; omega
      case true =>
      by_cases hBs : B ≤ sf
      · have HC := Lib.hid (hS.out.trans (cntTo_none HOK.out HX.out HAT.out (.inr hBs)).symm)
        have d1 : decide (B ≤ sf) = true := by simpa using hBs
        clear hBs
        go_wp2_with fail
        go_roundw
        case rel => exact ⟨k + 1, S, by omega, rfl, by go_num, HC, HB5⟩
        case measure => simp [intOf]; omega
      · have d1 : decide (B ≤ sf) = false := by simpa using hBs
        have hbw : wr.heap.size < w5.heap.size := (show Blk w5 _ _ _ from HKS5.out).lt
        have hft : sf < st ∧ st ≤ 4611686018427387904 := ⟨HSO.out.1, HSO.out.2.1⟩
        obtain ⟨T, hT⟩ : ∃ T, T = min st B := ⟨_, rfl⟩
        have HC := Lib.hid (cntTo_some HOK.out HX.out HAT.out (by show sf < B; omega) hT)
        have hT2 : T ≤ 18446744073709551615 := by omega
        have f1 := (show Blk w5 _ _ _ from HKS5.out).frozen 1
        have HKT : Hid (Blk (w5.setCell ⟨wr.heap.size, 1, none⟩ (.int .u64 (T : Int))) wr.heap.size 31 (stpV sf T A3 sn c3)) := (show Blk w5 wr.heap.size 31 _ from HKS5.out).put 1 _
        have hbt : Below w.heap.size w (w5.setCell ⟨wr.heap.size, 1, none⟩ (.int .u64 (T : Int))) := HB5.out.setCell (p := ⟨wr.heap.size, 1, none⟩) (by dsimp only; omega) _
        have HBT := Lib.hid hbt
        have hrt := keepS HRO.out hbt
        have HSH := Lib.hid (share_any (f := sf) (t := T) (i : Int) hrt.1 hrt.2 hs1 hT2)
        obtain ⟨X, hX⟩ : ∃ X, X = share (sf, T, ss) (i : Int) := ⟨_, rfl⟩
        have hC2 := HC.out
        rw [← hX] at HSH hC2
        have hle := cntTo_le (l := l) (x := x) (B := B) (k + 1)
        have hS2 := hS.out
        rw [HST.out, hC2, ← hS2] at hle
        have hSX : Hid (S + X = cntTo l x B (k + 1)) := by show _ = _; rw [hC2, hS2]
        have hw : IntKind.u64.wrap ((S : Int) + (X : Int)) = ((S + X : Nat) : Int) := by rw [IntWalk.u64_in _ (by omega)]; omega
        have k0 := (show Blk _ _ _ _ from HKT.out).cell 0
        have k1 := (show Blk _ _ _ _ from HKT.out).cell 1
        have k2 := (show Blk _ _ _ _ from HKT.out).cell 2
        have hTT : (st < B ∧ T = st) ∨ (B < st ∧ T = B) ∨ (st = B ∧ T = B) := by omega
        clear HC hC2 hS2 hX hle hbt hrt hT hft hT2
        rcases hTT with ⟨h1, h2⟩ | ⟨h1, h2⟩ | ⟨h1, h2⟩
        all_goals
          subst h2
          try subst h1
          go_wp2_with fail
          refine HSH.out.mono ?_; rintro en w6 ⟨rfl, hb6⟩
          go_wp2_with fail
          go_roundw
          case rel => exact ⟨k + 1, S + X, by omega, rfl, by go_num, hSX, stepB HBT.out hb6⟩
          case measure => simp [intOf]; omega
end
end Go.Proofs.Ytmdgmnaaopineaa
