/- The walk of the reference's Right. -/
import Derived.Test.YtlfieiiegokejaaStp3
namespace Go.Proofs.Ytlfieiiegokejaa
open Go.ChangeShapes Go.WideShapes Go.ChangeAt Go.RowKit
set_option linter.unusedVariables false
set_option maxRecDepth 100000 in
set_option maxHeartbeats 4000000 in
theorem rright_any {D : Dom} {A : Option Addr} {n c f t : Nat} {sets : List (List Nat)} {w : World} (hs : (rpSlice rpU64).sl w D A n c sets) (hD : ∀ k, D k → k < w.heap.size) (hf : f ≤ 18446744073709551615) (ht : t ≤ 18446744073709551615) :
    Calls Try.prog 70 #[.agg (stpV f t A n c)] w fun e w' => e = .returned (.bool (dec (SOk (f, t, sets)))) ∧ Below w.heap.size w w' := by
  obtain ⟨hlen, hnc, hcm⟩ := Rp.sl_len hs
  unfold maxLen at hcm
  subst hlen
  have hb0 : Below w.heap.size w (w.alloc (.cells (stpV f t A sets.length c) 79)) := (Below.refl _ _).alloc (Nat.le_refl _) _
  have HS := Lib.hid (Rp.sl_below hs hb0 hD)
  have HB0 := Lib.hid hb0
  have HD := Lib.hid (fun k hk => Nat.lt_of_lt_of_le (hD k hk) hb0.size)
  have HK := Lib.hid (Blk.new w 79 (stpV f t A sets.length c))
  clear hs hD hb0
  by_cases hpre : f < t ∧ t ≤ 4611686018427387904 ∧ 1 ≤ sets.length ∧ sets.length ≤ 8
  case neg =>
    have HN := Lib.hid (show ¬ SOk (f, t, sets) from fun h => hpre ⟨h.1, h.2.1, h.2.2.1, h.2.2.2.1⟩)
    have hc : t ≤ f ∨ (f < t ∧ 4611686018427387904 < t) ∨ (f < t ∧ t ≤ 4611686018427387904 ∧ sets.length < 1) ∨ (f < t ∧ t ≤ 4611686018427387904 ∧ 1 ≤ sets.length ∧ 8 < sets.length) := by omega
    clear hpre
    rcases hc with d1 | ⟨d1, d2⟩ | ⟨d1, d2, d3⟩ | ⟨d1, d2, d3, d4⟩
    all_goals
      go_enter Try.func70, Try.ntmps70
      go_wp2_with fail
      go_ret
      rw [dec_false HN.out]
      exact ⟨rfl, HB0.out⟩
  case pos =>
    obtain ⟨d1, d2, d3, d4⟩ := hpre
    have w1 : decide (t ≤ f) = false := by simp; omega
    have w2 : decide ((4611686018427387904 : Int) < (t : Int)) = false := by simp; omega
    have w3 : decide ((sets.length : Int) < 1) = false := by simp; omega
    have w4 : decide ((8 : Int) < (sets.length : Int)) = false := by simp; omega
    have HP0 : Hid (SUpTo (f, t, sets) 0) := ⟨⟨d1, d2, d3, d4⟩, fun i l h => by omega⟩
    go_enter Try.func70, Try.ntmps70
    go_wp2_with fail
    generalize World.alloc w _ = w0 at *
    have hz0 := HB0.out.size
    have hkl := HK.out.lt
    go_loopw [3] (fun i wr => ∃ (k : Nat), k ≤ sets.length ∧ i = .int .i64 k ∧ Hid (SUpTo (f, t, sets) k) ∧ Below w0.heap.size w0 wr) (fun i _ => sets.length - (intOf i).toNat)
    case atStart => exact ⟨0, by omega, rfl, HP0, Below.refl _ _⟩
    case round =>
      obtain ⟨k, hk, rfl, hup, hbr⟩ := hrel
      have HBR := Lib.hid hbr
      have hzr := hbr.size
      have hbk := HK.out.below hbr hkl
      have d2c : wr.cell? ⟨w.heap.size, 2, none⟩ = some (.slice A sets.length c) := hbk.cell 2
      have HBK := Lib.hid hbk
      clear hbk
      by_cases hkn : k < sets.length
      · obtain ⟨b, off, s, A2, c2, rfl, hb, hs, hcell, hrow⟩ := rows_at (Rp.sl_below HS.out hbr HD.out) hkn
        have HSS := Lib.hid hs
        have HR := Lib.hid hrow
        obtain ⟨_, hs1, hs2⟩ := Rp.sl_len hrow
        unfold maxLen at hs2
        have HNO := Lib.hid (fun h : ¬ SetOk sets k s => (fun hh : SOk (f, t, sets) => h (hh.2.2.2.2 k s HSS.out)))
        clear hs hrow hbr
        by_cases e1 : s.length < 1
        · have hno := Lib.hid (HNO.out (fun h => by have := h.1; omega))
          go_wp2_with fail
          go_ret
          rw [dec_false hno.out]
          exact ⟨rfl, HB0.out.trans (HBR.out.mono hz0)⟩
        by_cases e2 : 8 < s.length
        · have hno := Lib.hid (HNO.out (fun h => by have := h.2.1; omega))
          go_wp2_with fail
          go_ret
          rw [dec_false hno.out]
          exact ⟨rfl, HB0.out.trans (HBR.out.mono hz0)⟩
        have w5 : decide ((s.length : Int) < 1) = false := by simp; omega
        have w6 : decide ((8 : Int) < (s.length : Int)) = false := by simp; omega
        have hrs := rises_ref HR.out (fun k hk => Nat.lt_of_lt_of_le (HD.out k hk) hzr)
        cases hq : dec (Rises s)
        · rw [hq] at hrs
          have HRS := Lib.hid hrs
          have hno := Lib.hid (HNO.out (fun h => of_not_dec hq h.2.2.1))
          clear hrs hq
          go_wp2_with fail
          refine HRS.out.mono ?_; rintro e w1 ⟨rfl, hb1⟩
          go_wp2_with fail
          go_ret
          rw [dec_false hno.out]
          exact ⟨rfl, (HB0.out.trans (HBR.out.mono hz0)).trans (hb1.mono (Nat.le_trans hz0 hzr))⟩
        rw [hq] at hrs
        have HRS := Lib.hid hrs
        have HQ := Lib.hid (of_dec hq)
        obtain ⟨b', off', y, rfl, hb', hy, hc', hlt⟩ := u64_at HR.out (show s.length - 1 < s.length by omega)
        have HY := Lib.hid hy
        have hbD : b' < wr.heap.size := Nat.lt_of_lt_of_le (HD.out b' hb') hzr
        have HC := Lib.hid hc'
        have hn1 : ((s.length : Int) - 1).toNat = s.length - 1 := by omega
        have hn2 : ((s.length - 1 : Nat) : Int) = (s.length : Int) - 1 := by omega
        clear hrs hq hy hc'
        by_cases hyb : y < 4294967296
        · have hcmp : decide ((4294967296 : Int) ≤ (y : Int)) = false := by simp; omega
          have HYB := Lib.hid hyb
          clear hyb
          have htw := fun (w1 : World) (hb1 : Below wr.heap.size wr w1) => twice_any (m := k) (Rp.sl_below HR.out hb1 (fun k hk => Nat.lt_of_lt_of_le (HD.out k hk) hzr)) (Rp.sl_below (Rp.sl_below HS.out HBR.out HD.out) hb1 (fun k hk => Nat.lt_of_lt_of_le (HD.out k hk) hzr)) hk (fun k hk => Nat.lt_of_lt_of_le (Nat.lt_of_lt_of_le (HD.out k hk) hzr) hb1.size) (fun k hk => Nat.lt_of_lt_of_le (Nat.lt_of_lt_of_le (HD.out k hk) hzr) hb1.size)
          have HTW := Lib.hid htw
          clear htw
          go_wp2_with fail
          refine HRS.out.mono ?_; rintro e w1 ⟨rfl, hb1⟩
          have hc1 : w1.cell? ⟨b', off' + (s.length - 1), none⟩ = some (.int .u64 (y : Int)) := (hb1.cell (p := ⟨b', off' + (s.length - 1), none⟩) hbD).trans HC.out
          have d2c1 : w1.cell? ⟨w.heap.size, 2, none⟩ = some (.slice (some ⟨b, off, none⟩) sets.length c) := (HBK.out.below hb1 HBK.out.lt).cell 2
          have HB1 := Lib.hid hb1
          clear hb1 d2c
          go_wp2_with fail
          cases hq2 : dec (TwiceIn sets k s)
          · have ht2 := HTW.out w1 HB1.out
            rw [hq2] at ht2
            have HT2 := Lib.hid ht2
            have HQ2 := Lib.hid (of_not_dec hq2)
            clear ht2 hq2
            refine HT2.out.mono ?_; rintro e w2 ⟨rfl, hb2⟩
            clear hc1 d2c1
            go_wp2_with fail
            go_roundw
            case rel =>
              refine ⟨k + 1, by omega, by go_num, (sUpTo_succ HSS.out).2 ⟨hup.out, setOk_iff'.2 ⟨⟨by omega, by omega, HQ.out, fun a ha => by rw [HY.out] at ha; injection ha with ha; have := HYB.out; omega⟩, HQ2.out⟩⟩, ?_⟩
              have h1 := HBR.out.trans (HB1.out.mono hzr)
              exact h1.trans (hb2.mono h1.size)
            case measure => simp [intOf]; omega
          · have ht2 := HTW.out w1 HB1.out
            rw [hq2] at ht2
            have HT2 := Lib.hid ht2
            have hno := Lib.hid (HNO.out (fun h => (setOk_iff'.1 h).2 (of_dec hq2)))
            clear ht2 hq2
            refine HT2.out.mono ?_; rintro e w2 ⟨rfl, hb2⟩
            clear hc1 d2c1
            go_wp2_with fail
            go_ret
            rw [dec_false hno.out]
            have h1 := HBR.out.trans (HB1.out.mono hzr)
            exact ⟨rfl, HB0.out.trans ((h1.trans (hb2.mono h1.size)).mono hz0)⟩
        · have hcmp : decide ((4294967296 : Int) ≤ (y : Int)) = true := by simp; omega
          have hno := Lib.hid (HNO.out (fun h => hyb (h.2.2.2.1 y HY.out)))
          clear hyb
          go_wp2_with fail
          refine HRS.out.mono ?_; rintro e w1 ⟨rfl, hb1⟩
          have hc1 : w1.cell? ⟨b', off' + (s.length - 1), none⟩ = some (.int .u64 (y : Int)) := (hb1.cell (p := ⟨b', off' + (s.length - 1), none⟩) hbD).trans HC.out
          have HB1 := Lib.hid hb1
          clear hb1 d2c
          go_wp2_with fail
          go_ret
          rw [dec_false hno.out]
          have h1 := HBR.out.trans (HB1.out.mono hzr)
          exact ⟨rfl, HB0.out.trans (h1.mono hz0)⟩
      · obtain rfl : k = sets.length := by omega
        clear hbr
        go_wp2_with fail
        go_ret
        rw [← dec_congr sUpTo_all]
        rw [dec_true (p := SUpTo (f, t, sets) (f, t, sets).2.2.length) hup.out]
        exact ⟨rfl, HB0.out.trans (HBR.out.mono hz0)⟩
end Go.Proofs.Ytlfieiiegokejaa
