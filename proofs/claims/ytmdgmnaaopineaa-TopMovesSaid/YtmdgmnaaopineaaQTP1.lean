/-
  The law of this claim, a further part of its proof (1): the parts Prj2, Loc, Loc2, Loc3, Loc4, LcLive, LocM, LocP, LocMv, PrD.
-/
import Derived.BigQuiet
import Derived.Test.YtmdgmnaaopineaaQPR8
/- The walks of the reference's Right of a projection, and whether stripes are too many. -/
namespace Go.Proofs.Ytmdgmnaaopineaa
open Go.ChangeShapes Go.WideShapes Go.ChangeAt Go.RowKit
set_option linter.unusedVariables false
theorem startOf_pos {l : List Stp} {k : Nat} {s : Stp} (hk : 0 < k) (h : l[k - 1]? = some s) : startOf l k = s.2.1 := by
  obtain ⟨j, rfl⟩ : ∃ j, k = j + 1 := ⟨k - 1, by omega⟩
  exact startOf_succ h

set_option maxRecDepth 100000 in
set_option maxHeartbeats 4000000 in
theorem rpright_any {D : Dom} {A : Option Addr} {n c e : Nat} {l : List Stp} {w : World} (hs : rpStp.sl w D A n c l) (hD : ∀ k, D k → k < w.heap.size) (he : e ≤ 18446744073709551615) :
    Calls Try.prog 29 #[.agg (prjV e A n c)] w fun en w' => en = .returned (.bool (dec (POk (e, l)))) ∧ Below w.heap.size w w' := by
  obtain ⟨hlen, hnc, hcm⟩ := Rp.sl_len hs
  unfold maxLen at hcm
  subst hlen
  have hb0 : Below w.heap.size w (w.alloc (.cells (prjV e A l.length c) 25)) := (Below.refl _ _).alloc (Nat.le_refl _) _
  have HS := Lib.hid (Rp.sl_below hs hb0 hD)
  have HB0 := Lib.hid hb0
  have HD := Lib.hid (fun k hk => Nat.lt_of_lt_of_le (hD k hk) hb0.size)
  have HK := Lib.hid (Blk.new w 25 (prjV e A l.length c))
  clear hs hD hb0
  have her := fun w => reright_any e w he
  cases hq : dec (EOk e)
  · rw [hq] at her
    have HE := Lib.hid her
    rw [dec_false (fun h : POk (e, l) => of_not_dec hq h.1.1.1)]
    clear her hq
    go_enter Try.func29, Try.ntmps29
    go_wp2_with fail
    refine (HE.out _).mono ?_; rintro en w1 ⟨rfl, rfl⟩
    go_wp2_with fail
    go_ret
    exact ⟨rfl, HB0.out⟩
  rw [hq] at her
  have HE := Lib.hid her
  have HEO := Lib.hid (of_dec hq)
  clear her hq
  by_cases hpre : 1 ≤ l.length ∧ l.length ≤ 64
  case neg =>
    rw [dec_false (fun h : POk (e, l) => hpre h.1.1.2)]
    have hc : l.length < 1 ∨ (1 ≤ l.length ∧ 64 < l.length) := by omega
    clear hpre
    rcases hc with d1 | ⟨d1, d2⟩
    all_goals
      go_enter Try.func29, Try.ntmps29
      go_wp2_with fail
      refine (HE.out _).mono ?_; rintro en w1 ⟨rfl, rfl⟩
      go_wp2_with fail
      go_ret
      exact ⟨rfl, HB0.out⟩
  obtain ⟨d1, d2⟩ := hpre
  have v1 : decide ((l.length : Int) < 1) = false := by simp; omega
  have v2 : decide ((64 : Int) < (l.length : Int)) = false := by simp; omega
  have HP0 : Hid (PUpTo (e, l) 0) := ⟨⟨HEO.out, d1, d2⟩, fun i s h => by omega⟩
  obtain ⟨b0, off0, s0, A0, c0, rfl, hb0, hs0, g00, g01, g02, _, hs01, hs02⟩ := stps_at HS.out (show 0 < l.length by omega)
  rw [Nat.zero_mul, Nat.add_zero] at g00
  have HS0 := Lib.hid hs0
  clear hs0 g01 g02 hb0
  obtain ⟨f0, hf0⟩ : ∃ f0, f0 = s0.1 := ⟨_, rfl⟩
  rw [← hf0] at g00 hs01
  have HF0 := Lib.hid hf0
  clear hf0
  by_cases hz : f0 = 0
  case neg =>
    have hn : ((f0 : Int) != 0) = true := by simp; omega
    have hno := Lib.hid (show ¬ POk (e, l) from fun h => hz (by
      have := (h.1.2 0 s0 (List.getElem?_eq_some_iff.1 HS0.out).1 HS0.out).2
      rw [HF0.out]; exact this))
    rw [dec_false hno.out]
    clear hz
    go_enter Try.func29, Try.ntmps29
    go_wp2_with fail
    refine (HE.out _).mono ?_; rintro en w1 ⟨rfl, rfl⟩
    go_wp2_with fail
    go_ret
    exact ⟨rfl, HB0.out⟩
  subst hz
  obtain ⟨b1, off1, s1, A1, c1, hA1, hb1, hs1, g10, g11, g12, _, hs11, hs12⟩ := stps_at HS.out (show l.length - 1 < l.length by omega)
  injection hA1 with hA1
  injection hA1 with hA1 hA2
  subst hA1; subst hA2
  have HS1 := Lib.hid hs1
  clear hs1 g10 g12 hb1
  obtain ⟨t1, ht1⟩ : ∃ t1, t1 = s1.2.1 := ⟨_, rfl⟩
  rw [← ht1] at g11 hs12
  have HT1 := Lib.hid ht1
  have hn1 : ((l.length : Int) - 1).toNat = l.length - 1 := by omega
  have hn2 : ((l.length - 1 : Nat) : Int) = (l.length : Int) - 1 := by omega
  clear ht1
  by_cases hz : t1 = 4611686018427387904
  case neg =>
    have hn : ((t1 : Int) != 4611686018427387904) = true := by simp; omega
    have hno := Lib.hid (show ¬ POk (e, l) from fun h => hz (by
      have := h.2
      rw [startOf_pos (by exact d1) HS1.out] at this
      rw [HT1.out]; exact this))
    rw [dec_false hno.out]
    clear hz
    go_enter Try.func29, Try.ntmps29
    go_wp2_with fail
    refine (HE.out _).mono ?_; rintro en w1 ⟨rfl, rfl⟩
    go_wp2_with fail
    go_ret
    exact ⟨rfl, HB0.out⟩
  have hn : ((t1 : Int) != 4611686018427387904) = false := by simp; omega
  have HZ := Lib.hid hz
  clear hz
  go_enter Try.func29, Try.ntmps29
  go_wp2_with fail
  refine (HE.out _).mono ?_; rintro en w1 ⟨rfl, rfl⟩
  go_wp2_with fail
  clear g00 g11 hn1 hn2
  generalize World.alloc w _ = w0 at *
  have hz0 := HB0.out.size
  have hkl := (show Blk _ _ _ _ from HK.out).lt
  go_loopw [4] (fun i wr => ∃ (k : Nat), k ≤ l.length ∧ i = .int .i64 k ∧ Hid (PUpTo (e, l) k) ∧ Below w0.heap.size w0 wr) (fun i _ => l.length - (intOf i).toNat)
  case atStart => exact ⟨0, by omega, rfl, HP0, Below.refl _ _⟩
  case round =>
    obtain ⟨k, hk, rfl, hup, hbr⟩ := hrel
    have HBR := Lib.hid hbr
    have hzr := hbr.size
    by_cases hkn : k < l.length
    · obtain ⟨b, off, s, A2, c2, hA, hb, hsk, g0, g1, g2, hrow, hs1, hs2⟩ := stps_at (Rp.sl_below HS.out hbr HD.out) hkn
      injection hA with hA
      injection hA with hA hA2
      subst hA; subst hA2
      have hbl : b0 < wr.heap.size := Nat.lt_of_lt_of_le (HD.out _ hb) hzr
      have HSK := Lib.hid hsk
      have HR := Lib.hid hrow
      have hdk : decide ((k : Int) < (l.length : Int)) = true := by simp; omega
      obtain ⟨sf, hsf⟩ : ∃ sf, sf = s.1 := ⟨_, rfl⟩
      obtain ⟨st, hst2⟩ : ∃ st, st = s.2.1 := ⟨_, rfl⟩
      obtain ⟨sn, hsn⟩ : ∃ sn, sn = s.2.2.length := ⟨_, rfl⟩
      rw [← hsf] at g0 hs1
      rw [← hst2] at g1 hs2
      rw [← hsn] at g2
      have HSF := Lib.hid hsf
      have HST := Lib.hid hst2
      have HSN := Lib.hid hsn
      have gq0 : ∀ q : Gr wr.heap.size wr, q.val.cell? ⟨b0, off0 + k * 3, none⟩ = some (.int .u64 (sf : Int)) := fun q => (q.is.cell (p := ⟨b0, off0 + k * 3, none⟩) hbl).trans g0
      have gq1 : ∀ q : Gr wr.heap.size wr, q.val.cell? ⟨b0, off0 + k * 3 + 1, none⟩ = some (.int .u64 (st : Int)) := fun q => (q.is.cell (p := ⟨b0, off0 + k * 3 + 1, none⟩) hbl).trans g1
      have gq2 : ∀ q : Gr wr.heap.size wr, q.val.cell? ⟨b0, off0 + k * 3 + 2, none⟩ = some (.slice A2 sn c2) := fun q => (q.is.cell (p := ⟨b0, off0 + k * 3 + 2, none⟩) hbl).trans g2
      have hbk := HK.out.below hbr hkl
      have gqk : ∀ q : Gr wr.heap.size wr, q.val.cell? ⟨w.heap.size, 1, none⟩ = some (.slice (some ⟨b0, off0, none⟩) l.length c) := fun q => (Blk.below hbk q.is hbk.lt).cell 1
      have hrt : ∀ q : Gr wr.heap.size wr, _ := fun q => rright_any (f := s.1) (t := s.2.1) (Rp.sl_below HR.out q.is (fun k hk => Nat.lt_of_lt_of_le (HD.out k hk) hzr)) (fun k hk => Nat.lt_of_lt_of_le (Nat.lt_of_lt_of_le (HD.out k hk) hzr) q.is.size) (by rw [← HSF.out]; omega) (by rw [← HST.out]; omega)
      rw [← HSF.out, ← HST.out, ← HSN.out] at hrt
      have hk0 : (0 : Int) ≤ (k : Int) := by omega
      have hk1 : (k : Int) < (l.length : Int) := by omega
      clear hsk hrow hbr hsf hst2 hsn hbk g0 g1 g2
      cases hq : dec (SOk (sf, st, s.2.2))
      · rw [hq] at hrt
        have HRT := Lib.hid hrt
        have hno := Lib.hid (show ¬ POk (e, l) from fun h => of_not_dec hq (by
          have := (h.1.2 k s (List.getElem?_eq_some_iff.1 HSK.out).1 HSK.out).1
          rw [HSF.out, HST.out]; exact this))
        clear hrt hq
        go_wp2_with fail
        refine wp_region_grow (by kernel_rfl) (by kernel_rfl) wr.heap.size ?_
        repeat (first | go_big_quiet_step (((go_at_call 46; exact Gr.call _ (Nat.le_refl _) (HRT.out _)))) | quiet_step (((go_at_call 46; exact Gr.call _ (Nat.le_refl _) (HRT.out _)))))
        refine wpQuiet_nil ?_
        rintro w3 ⟨⟨_, hb3⟩, rfl⟩
        clear gq0 gq1 gq2 gqk
        go_wp2_with fail
        go_ret
        rw [dec_false hno.out]
        exact ⟨rfl, HB0.out.trans ((HBR.out.trans (hb3.mono hzr)).mono hz0)⟩
      · rw [hq] at hrt
        have HRT := Lib.hid hrt
        have HOK := Lib.hid (of_dec hq)
        clear hrt hq
        by_cases hkz : k = 0
        · have hd0 : decide (0 < k) = false := by simp; omega
          have hd1 : decide ((0 : Int) < (k : Int)) = false := by simp; omega
          have HKZ := Lib.hid hkz
          clear hkz
          go_wp2_with fail
          refine wp_region_grow (by kernel_rfl) (by kernel_rfl) wr.heap.size ?_
          repeat (first | go_big_quiet_step (((go_at_call 46; exact Gr.call _ (Nat.le_refl _) (HRT.out _)))) | quiet_step (((go_at_call 46; exact Gr.call _ (Nat.le_refl _) (HRT.out _)))))
          refine wpQuiet_nil ?_
          rintro w3 ⟨⟨_, hb3⟩, rfl⟩
          clear gq0 gq1 gq2 gqk
          go_wp2_with fail
          go_roundw
          case rel =>
            refine ⟨k + 1, by omega, by go_num, (pUpTo_succ HSK.out).2 ⟨hup.out, ?_, ?_⟩, HBR.out.trans (hb3.mono hzr)⟩
            · have := HOK.out
              rw [HSF.out, HST.out] at this
              exact this
            · have h0 := HS0.out
              rw [← HKZ.out, HSK.out] at h0
              injection h0 with h0
              rw [h0, HKZ.out, ← HF0.out]; rfl
          case measure => simp [intOf]; omega
        · have hd0 : decide (0 < k) = true := by simp; omega
          have hd1 : decide ((0 : Int) < (k : Int)) = true := by simp; omega
          obtain ⟨b9, off9, s9, A9, c9, hA9, hb9, hs9, g90, g91, g92, _, hs91, hs92⟩ := stps_at (Rp.sl_below HS.out HBR.out HD.out) (show k - 1 < l.length by omega)
          injection hA9 with hA9
          injection hA9 with hA9 hA99
          subst hA9; subst hA99
          obtain ⟨t9, ht9⟩ : ∃ t9, t9 = s9.2.1 := ⟨_, rfl⟩
          rw [← ht9] at g91 hs92
          have HT9 := Lib.hid ht9
          have HS9 := Lib.hid hs9
          have gq9 : ∀ q : Gr wr.heap.size wr, q.val.cell? ⟨b0, off0 + (k - 1) * 3 + 1, none⟩ = some (.int .u64 (t9 : Int)) := fun q => (q.is.cell (p := ⟨b0, off0 + (k - 1) * 3 + 1, none⟩) hbl).trans g91
          have m1 : IntKind.i64.wrap ((k : Int) - 1) = (k : Int) - 1 := IntWalk.i64_in _ (by omega)
          have m2 : (0 : Int) ≤ (k : Int) - 1 := by omega
          have m3 : (k : Int) - 1 < (l.length : Int) := by omega
          have m4 : ((k : Int) - 1).toNat = k - 1 := by omega
          have HKZ := Lib.hid (show 0 < k by omega)
          clear hkz ht9 hs9 g90 g91 g92
          by_cases hne : sf = t9
          · have hdn : ((sf : Int) != (t9 : Int)) = false := by simp; omega
            have HNE := Lib.hid hne
            clear hne
            go_wp2_with fail
            refine wp_region_grow (by kernel_rfl) (by kernel_rfl) wr.heap.size ?_
            repeat (first | go_big_quiet_step (((go_at_call 46; exact Gr.call _ (Nat.le_refl _) (HRT.out _)))) | quiet_step (((go_at_call 46; exact Gr.call _ (Nat.le_refl _) (HRT.out _)))))
            refine wpQuiet_nil ?_
            rintro w3 ⟨⟨_, hb3⟩, rfl⟩
            clear gq0 gq1 gq2 gqk gq9 m1 m4
            go_wp2_with fail
            go_roundw
            case rel =>
              refine ⟨k + 1, by omega, by go_num, (pUpTo_succ HSK.out).2 ⟨hup.out, ?_, ?_⟩, HBR.out.trans (hb3.mono hzr)⟩
              · have := HOK.out
                rw [HSF.out, HST.out] at this
                exact this
              · show s.1 = startOf l k
                rw [← HSF.out, startOf_pos HKZ.out HS9.out, HNE.out, HT9.out]
            case measure => simp [intOf]; omega
          · have hdn : ((sf : Int) != (t9 : Int)) = true := by simp; omega
            have hno := Lib.hid (show ¬ POk (e, l) from fun h => hne (by
              have := (h.1.2 k s (List.getElem?_eq_some_iff.1 HSK.out).1 HSK.out).2
              rw [startOf_pos HKZ.out HS9.out] at this
              rw [HSF.out, HT9.out]; exact this))
            clear hne
            go_wp2_with fail
            refine wp_region_grow (by kernel_rfl) (by kernel_rfl) wr.heap.size ?_
            repeat (first | go_big_quiet_step (((go_at_call 46; exact Gr.call _ (Nat.le_refl _) (HRT.out _)))) | quiet_step (((go_at_call 46; exact Gr.call _ (Nat.le_refl _) (HRT.out _)))))
            refine wpQuiet_nil ?_
            rintro w3 ⟨⟨_, hb3⟩, rfl⟩
            clear gq0 gq1 gq2 gqk gq9 m1 m4
            go_wp2_with fail
            go_ret
            rw [dec_false hno.out]
            exact ⟨rfl, HB0.out.trans ((HBR.out.trans (hb3.mono hzr)).mono hz0)⟩
    · obtain rfl : k = l.length := by omega
      have hdk : decide ((l.length : Int) < (l.length : Int)) = false := by simp
      clear hbr
      have hyes := Lib.hid (show POk (e, l) from ⟨hup.out, by
        show startOf l l.length = _
        rw [startOf_pos (by omega) HS1.out, ← HT1.out]; exact HZ.out⟩)
      go_wp2_with fail
      go_ret
      rw [dec_true hyes.out]
      exact ⟨rfl, HB0.out.trans (HBR.out.mono hz0)⟩

def AnyBool (w : World) (e : Ending) (w' : World) : Prop := ∃ b : Bool, e = .returned (.bool b) ∧ Below w.heap.size w w'
theorem plong_any {D : Dom} {A : Option Addr} {n c e : Nat} {l : List Stp} {w : World} (hs : rpStp.sl w D A n c l) (hD : ∀ k, D k → k < w.heap.size) :
    Calls Try.prog 16 #[.agg (prjV e A n c)] w (AnyBool w) := by
  obtain ⟨hlen, hnc, hcm⟩ := Rp.sl_len hs
  unfold maxLen at hcm
  subst hlen
  have hb0 : Below w.heap.size w (w.alloc (.cells (prjV e A l.length c) 25)) := (Below.refl _ _).alloc (Nat.le_refl _) _
  have HS := Lib.hid (Rp.sl_below hs hb0 hD)
  have HB0 := Lib.hid hb0
  have HD := Lib.hid (fun k hk => Nat.lt_of_lt_of_le (hD k hk) hb0.size)
  have HK := Lib.hid (Blk.new w 25 (prjV e A l.length c))
  clear hs hD hb0
  go_enter Try.func16, Try.ntmps16
  go_wp2_with fail
  generalize World.alloc w _ = w0 at *
  have hz0 := HB0.out.size
  have hkl := (show Blk _ _ _ _ from HK.out).lt
  go_loopw [3] (fun i wr => ∃ k : Nat, k ≤ l.length ∧ k ≤ 70 ∧ i = .int .i64 k ∧ Below w0.heap.size w0 wr) (fun i _ => l.length - (intOf i).toNat)
  case atStart => exact ⟨0, by omega, by omega, rfl, Below.refl _ _⟩
  case round =>
    obtain ⟨k, hk, hk70, rfl, hbr⟩ := hrel
    have HBR := Lib.hid hbr
    have hzr := hbr.size
    have hbk := HK.out.below hbr hkl
    have gk : wr.cell? ⟨w.heap.size, 1, none⟩ = some (.slice A l.length c) := hbk.cell 1
    clear hbk
    by_cases hin : k < l.length ∧ k < 70
    · obtain ⟨h1, h2⟩ := hin
      obtain ⟨b, off, s, A2, c2, rfl, hb, hsk, g0, g1, g2, hrow, hs1, hs2⟩ := stps_at (Rp.sl_below HS.out hbr HD.out) h1
      have HR := Lib.hid hrow
      have hd1 : decide ((k : Int) < (l.length : Int)) = true := by simp; omega
      have hd2 : decide ((k : Int) < 70) = true := by simp; omega
      clear hrow hsk hbr
      go_wp2_with fail
      refine (long_any HR.out (fun k hk => Nat.lt_of_lt_of_le (HD.out k hk) hzr)).mono ?_; rintro en w1 ⟨bb, rfl, _, hb1⟩
      clear g0 g1 g2 gk
      cases bb
      · go_wp2_with fail
        go_roundw
        case rel => exact ⟨k + 1, by omega, by omega, by go_num, HBR.out.trans (hb1.mono hzr)⟩
        case measure => simp [intOf]; omega
      · go_wp2_with fail
        go_ret
        exact ⟨true, rfl, HB0.out.trans ((HBR.out.trans (hb1.mono hzr)).mono hz0)⟩
    · have hc : k = l.length ∨ (k < l.length ∧ k = 70) := by omega
      clear hin hbr
      rcases hc with rfl | ⟨h1, rfl⟩
      · have hd1 : decide ((l.length : Int) < (l.length : Int)) = false := by simp
        go_wp2_with fail
        go_ret
        exact ⟨_, rfl, HB0.out.trans (HBR.out.mono hz0)⟩
      · have hd1 : decide ((70 : Int) < (l.length : Int)) = true := by simp; omega
        go_wp2_with fail
        go_ret
        exact ⟨_, rfl, HB0.out.trans (HBR.out.mono hz0)⟩
end Go.Proofs.Ytmdgmnaaopineaa
/- Chapter 21: in which stripe a position is: sort.Search, and locate.Stripe. -/
namespace Go.Proofs.Ytmdgmnaaopineaa
open Go.ChangeShapes Go.WideShapes Go.ChangeAt Go.RowKit
set_option linter.unusedVariables false
theorem lclos_any {D : Dom} {A : Option Addr} {n c g2 g3 : Nat} {l : List Stp} {w : World} (x i : Nat) {s : Stp} (hs : rpStp.sl w D A n c l) (hD : ∀ k, D k → k < w.heap.size) (c0 : w.cell? ⟨g3, 0, none⟩ = some (.int .u64 (x : Int))) (c1 : w.cell? ⟨g2, 1, none⟩ = some (.slice A n c)) (hi : l[i]? = some s) :
    Calls Try.prog 86 #[.int .i64 (i : Int), .pointer (some ⟨g3, 0, none⟩), .pointer (some ⟨g2, 0, none⟩)] w fun en w' => en = .returned (.bool (decide (x < s.2.1))) ∧ Below w.heap.size w w' := by
  obtain ⟨hlen, hnc, hcm⟩ := Rp.sl_len hs
  unfold maxLen at hcm
  have hin : i < n := by have := (List.getElem?_eq_some_iff.1 hi).1; omega
  obtain ⟨b, off, s', A2, c2, rfl, hb, hsk, g0, g1, g2', hrow, hs1, hs2⟩ := stps_at hs hin
  rw [hi] at hsk
  injection hsk with hsk
  subst hsk
  obtain ⟨t, ht⟩ : ∃ t, t = s.2.1 := ⟨_, rfl⟩
  rw [← ht] at g1 hs2 ⊢
  have hk0 : (0 : Int) ≤ (i : Int) := by omega
  have hk1 : (i : Int) < (n : Int) := by omega
  clear hs hi hrow g0 g2' hlen ht
  go_enter Try.func86, Try.ntmps86
  go_wp2_with fail
  go_quiet (fail)
  go_wp2_with fail
  go_ret
  exact ⟨by simp, ⟨rfl, rfl, rfl, Nat.le_refl _, fun _ _ => rfl⟩⟩
def SearchPost (l : List Stp) (x : Nat) (w : World) (en : Ending) (w' : World) : Prop := ∃ r : Nat, en = .returned (.int .i64 (r : Int)) ∧ r ≤ l.length ∧ startOf l r ≤ x ∧ (r = l.length ∨ ∃ s, l[r]? = some s ∧ x < s.2.1) ∧ Below w.heap.size w w'
set_option maxRecDepth 100000 in
theorem search_any {D : Dom} {A : Option Addr} {c g2 g3 : Nat} {l : List Stp} {w : World} (x : Nat) (hs : rpStp.sl w D A l.length c l) (hD : ∀ k, D k → k < w.heap.size) (c0 : w.cell? ⟨g3, 0, none⟩ = some (.int .u64 (x : Int))) (c1 : w.cell? ⟨g2, 1, none⟩ = some (.slice A l.length c)) (h2 : g2 < w.heap.size) (h3 : g3 < w.heap.size) (hl : l.length ≤ 1000) :
    Calls Try.prog 85 #[.int .i64 (l.length : Int), .func (Fn.func 86) #[] #[.pointer (some ⟨g3, 0, none⟩), .pointer (some ⟨g2, 0, none⟩)]] w (SearchPost l x w) := by
  have HC : Hid (∀ (w1 : World) (i : Nat) (s : Stp), Below w.heap.size w w1 → l[i]? = some s → Calls Try.prog 86 #[.int .i64 (i : Int), .pointer (some ⟨g3, 0, none⟩), .pointer (some ⟨g2, 0, none⟩)] w1 fun en w' => en = .returned (.bool (decide (x < s.2.1))) ∧ Below w1.heap.size w1 w') :=
    fun w1 i s hb hi => lclos_any x i (Rp.sl_below hs hb hD) (fun k hk => Nat.lt_of_lt_of_le (hD k hk) hb.size) ((hb.cell (p := ⟨g3, 0, none⟩) h3).trans c0) ((hb.cell (p := ⟨g2, 1, none⟩) h2).trans c1) hi
  clear hs hD c0 c1
  go_enter Try.func85, Try.ntmps85
  go_wp2_with fail
  go_loopw [5, 6] (fun iv jv wr => ∃ (i j : Nat), i ≤ j ∧ j ≤ l.length ∧ iv = .int .i64 i ∧ jv = .int .i64 j ∧ Hid (startOf l i ≤ x) ∧ Hid (j = l.length ∨ ∃ s, l[j]? = some s ∧ x < s.2.1) ∧ Below w.heap.size w wr) (fun i j _ => (intOf j).toNat - (intOf i).toNat)
  case atStart => exact ⟨0, l.length, by omega, by omega, rfl, rfl, Nat.zero_le _, .inl rfl, Below.refl _ _⟩
  case round =>
    obtain ⟨i, j, hij, hjn, rfl, rfl, hlo, hhi, hbr⟩ := hrel
    have HBR := Lib.hid hbr
    have hzr := hbr.size
    by_cases hlt : i < j
    · have hd : decide ((i : Int) < (j : Int)) = true := by simp; omega
      obtain ⟨h, hh⟩ : ∃ h : Nat, ((i : Int) + j) / 2 = (h : Int) := ⟨(i + j) / 2, by omega⟩
      have hh1 : i ≤ h := by omega
      have hh2 : h < j := by omega
      have hh3 : (h : Int) ≤ 1000 := by omega
      obtain ⟨s, hs⟩ : ∃ s, l[h]? = some s := ⟨_, List.getElem?_eq_getElem (show h < l.length by omega)⟩
      have hc := HC.out wr h s hbr hs
      have HSS := Lib.hid hs
      clear hbr hs
      cases hq : decide (x < s.2.1)
      · rw [hq] at hc
        have HCC := Lib.hid hc
        have HQ := Lib.hid (of_decide_eq_false hq)
        clear hc hq
        go_wp2_with fail
        refine HCC.out.mono ?_; rintro en w1 ⟨rfl, hb1⟩
        go_wp2_with fail
        go_roundw
        case rel => exact ⟨h + 1, j, by omega, hjn, by go_num, rfl, (by show startOf l (h + 1) ≤ x; rw [startOf_succ HSS.out]; have := HQ.out; omega), hhi, HBR.out.trans (hb1.mono hzr)⟩
        case measure => simp [intOf]; omega
      · rw [hq] at hc
        have HCC := Lib.hid hc
        have HQ := Lib.hid (of_decide_eq_true hq)
        clear hc hq
        go_wp2_with fail
        refine HCC.out.mono ?_; rintro en w1 ⟨rfl, hb1⟩
        go_wp2_with fail
        go_roundw
        case rel => exact ⟨i, h, by omega, by omega, rfl, rfl, hlo, .inr ⟨s, HSS.out, HQ.out⟩, HBR.out.trans (hb1.mono hzr)⟩
        case measure => simp [intOf]; omega
    · obtain rfl : i = j := by omega
      have hd : decide ((i : Int) < (i : Int)) = false := by simp
      clear hbr
      go_wp2_with fail
      go_ret
      exact ⟨i, rfl, hjn, hlo.out, hhi.out, HBR.out⟩
/-- Position x is in stripe number r, which is s. -/
def InStripe (l : List Stp) (x r : Nat) (s : Stp) : Prop := l[r]? = some s ∧ s.1 ≤ x ∧ x < s.2.1
def StripePost (l : List Stp) (x : Nat) (w : World) (en : Ending) (w' : World) : Prop := ∃ (r : Nat) (s : Stp), en = .returned (.tuple #[.int .i64 (r : Int), .bool true]) ∧ InStripe l x r s ∧ Below w.heap.size w w'
set_option maxRecDepth 100000 in
theorem lstripe_any {D : Dom} {A : Option Addr} {n c e : Nat} {l : List Stp} {w : World} (x : Nat) (hs : rpStp.sl w D A n c l) (hD : ∀ k, D k → k < w.heap.size) (he : e ≤ 18446744073709551615) (hx : x ≤ 18446744073709551615) (hok : POk (e, l)) (hpos : PosOk x) :
    Calls Try.prog 27 #[.agg (prjV e A n c), .int .u64 (x : Int)] w (StripePost l x w) := by
  obtain ⟨hlen, hnc, hcm⟩ := Rp.sl_len hs
  unfold maxLen at hcm
  subst hlen
  have hb0 : Below w.heap.size w ((w.alloc (.cells (prjV e A l.length c) 25)).alloc (.cells #[.int .u64 (x : Int)] 22)) := ((Below.refl _ _).alloc (Nat.le_refl _) _).alloc (by simp) _
  have hr := pright_any (Rp.sl_below hs hb0 hD) (fun k hk => Nat.lt_of_lt_of_le (hD k hk) hb0.size) he
  rw [dec_true hok] at hr
  have HR := Lib.hid hr
  have hp := fun w => epos_any x w hx
  rw [dec_true hpos] at hp
  have HPS := Lib.hid hp
  have HS := Lib.hid (Rp.sl_below hs hb0 hD)
  have HD := Lib.hid (fun k hk => Nat.lt_of_lt_of_le (hD k hk) hb0.size)
  have HB0 := Lib.hid hb0
  have HK0 : Hid (Blk ((w.alloc (.cells (prjV e A l.length c) 25)).alloc (.cells #[.int .u64 (x : Int)] 22)) w.heap.size 25 (prjV e A l.length c)) := (Blk.newAt rfl _ _).alloc _
  have HK1 : Hid (Blk ((w.alloc (.cells (prjV e A l.length c) 25)).alloc (.cells #[.int .u64 (x : Int)] 22)) (w.heap.size + 1) 22 #[.int .u64 (x : Int)]) := Blk.newAt (size_alloc _ _) _ _
  have HOK := Lib.hid hok
  have HPO := Lib.hid hpos
  have hl64 : l.length ≤ 64 := hok.1.1.2.2
  clear hr hp hs hD hb0 hok hpos
  go_enter Try.func27, Try.ntmps27
  go_wp2_with fail
  generalize World.alloc (World.alloc w _) _ = w0 at *
  have hz0 := HB0.out.size
  refine HR.out.mono ?_; rintro en w1 ⟨rfl, hb1⟩
  have hk0 := Blk.below (show Blk _ _ _ _ from HK0.out) hb1 (show Blk _ _ _ _ from HK0.out).lt
  have hk1 := Blk.below (show Blk _ _ _ _ from HK1.out) hb1 (show Blk _ _ _ _ from HK1.out).lt
  have c0 : w1.cell? ⟨w.heap.size + 1, 0, none⟩ = some (.int .u64 (x : Int)) := hk1.cell 0
  have c1 : w1.cell? ⟨w.heap.size, 1, none⟩ = some (.slice A l.length c) := hk0.cell 1
  have hl0 := hk0.lt
  have hl1 := hk1.lt
  have HB1 := Lib.hid hb1
  clear hb1 hk0 hk1
  go_wp2_with fail
  refine (HPS.out _).mono ?_; rintro en w2 ⟨rfl, rfl⟩
  go_wp2_with fail
  refine (search_any x (Rp.sl_below HS.out HB1.out HD.out) (fun k hk => Nat.lt_of_lt_of_le (HD.out k hk) HB1.out.size) c0 c1 hl0 hl1 (by omega)).mono ?_; rintro en w2 ⟨r, rfl, hr, hlo, hhi, hb2⟩
  have HLO := Lib.hid hlo
  have HHI := Lib.hid hhi
  clear hlo hhi c0 c1
  go_wp2_with fail
  go_ret2
  have hbz := HB0.out.trans ((HB1.out.trans (hb2.mono HB1.out.size)).mono hz0)
  rcases HHI.out with rfl | ⟨s, hs, hxs⟩
  · have h1 := HOK.out.2
    have h2 := HLO.out
    have h3 : x < 4611686018427387904 := HPO.out
    dsimp only at h1
    omega
  · refine ⟨r, s, rfl, ⟨hs, ?_, hxs⟩, hbz⟩
    have := (HOK.out.1.2 r s (List.getElem?_eq_some_iff.1 hs).1 hs).2
    rw [this]; exact HLO.out
theorem lstripe_bad {D : Dom} {A : Option Addr} {n c e : Nat} {l : List Stp} {w : World} (x : Nat) (hs : rpStp.sl w D A n c l) (hD : ∀ k, D k → k < w.heap.size) (he : e ≤ 18446744073709551615) (hx : x ≤ 18446744073709551615) (hno : ¬ (POk (e, l) ∧ PosOk x)) :
    Calls Try.prog 27 #[.agg (prjV e A n c), .int .u64 (x : Int)] w fun en w' => en = .returned (.tuple #[.int .i64 0, .bool false]) ∧ Below w.heap.size w w' := by
  obtain ⟨hlen, hnc, hcm⟩ := Rp.sl_len hs
  unfold maxLen at hcm
  subst hlen
  have hb0 : Below w.heap.size w ((w.alloc (.cells (prjV e A l.length c) 25)).alloc (.cells #[.int .u64 (x : Int)] 22)) := ((Below.refl _ _).alloc (Nat.le_refl _) _).alloc (by simp) _
  have hr := pright_any (Rp.sl_below hs hb0 hD) (fun k hk => Nat.lt_of_lt_of_le (hD k hk) hb0.size) he
  have HB0 := Lib.hid hb0
  have HK1 : Hid (Blk ((w.alloc (.cells (prjV e A l.length c) 25)).alloc (.cells #[.int .u64 (x : Int)] 22)) (w.heap.size + 1) 22 #[.int .u64 (x : Int)]) := Blk.newAt (size_alloc _ _) _ _
  by_cases hok : POk (e, l)
  · rw [dec_true hok] at hr
    have HR := Lib.hid hr
    have hp := fun w => epos_any x w hx
    rw [dec_false (fun h => hno ⟨hok, h⟩)] at hp
    have HPS := Lib.hid hp
    clear hr hp hs hD hb0 hok hno
    go_enter Try.func27, Try.ntmps27
    go_wp2_with fail
    generalize World.alloc (World.alloc w _) _ = w0 at *
    refine HR.out.mono ?_; rintro en w1 ⟨rfl, hb1⟩
    have hk1 := Blk.below (show Blk _ _ _ _ from HK1.out) hb1 (show Blk _ _ _ _ from HK1.out).lt
    have c0 : w1.cell? ⟨w.heap.size + 1, 0, none⟩ = some (.int .u64 (x : Int)) := hk1.cell 0
    have HB1 := Lib.hid hb1
    clear hb1 hk1
    go_wp2_with fail
    refine (HPS.out _).mono ?_; rintro en w2 ⟨rfl, rfl⟩
    go_wp2_with fail
    go_ret2
    exact ⟨rfl, HB0.out.trans (HB1.out.mono HB0.out.size)⟩
  · rw [dec_false hok] at hr
    have HR := Lib.hid hr
    clear hr hs hD hb0 hok hno
    go_enter Try.func27, Try.ntmps27
    go_wp2_with fail
    generalize World.alloc (World.alloc w _) _ = w0 at *
    refine HR.out.mono ?_; rintro en w1 ⟨rfl, hb1⟩
    have HB1 := Lib.hid hb1
    clear hb1
    go_wp2_with fail
    go_ret2
    exact ⟨rfl, HB0.out.trans (HB1.out.mono HB0.out.size)⟩
end Go.Proofs.Ytmdgmnaaopineaa
/- Rows of numbers; locate.place and locate.At. -/
namespace Go.Proofs.Ytmdgmnaaopineaa
open Go.ChangeShapes Go.WideShapes Go.ChangeAt Go.RowKit
set_option linter.unusedVariables false
/-- The place of a position in its stripe: the set's number, the number there, its nodes. -/
def PlaceIs (l : List Stp) (x r K N : Nat) (nd : List Nat) : Prop := ∃ s, InStripe l x r s ∧ SOk s ∧ K = (x - s.1) % s.2.2.length ∧ N = (x - s.1) / s.2.2.length ∧ s.2.2[K]? = some nd
def PlacePost (l : List Stp) (x r : Nat) (w : World) (en : Ending) (w' : World) : Prop :=
  ∃ (K N : Nat) (nd : List Nat) (A2 : Option Addr) (n2 c2 : Nat) (D2 : Dom), en = .returned (.agg #[.int .i64 (r : Int), .int .i64 (K : Int), .int .u64 (N : Int), .slice A2 n2 c2]) ∧ PlaceIs l x r K N nd ∧ rpU64.sl w' D2 A2 n2 c2 nd ∧ (∀ k, D2 k → w.heap.size ≤ k ∧ k < w'.heap.size) ∧ Below w.heap.size w w'
set_option maxRecDepth 100000 in
set_option maxHeartbeats 4000000 in
theorem place_any {D : Dom} {A : Option Addr} {n c e r : Nat} {l : List Stp} {s : Stp} {w : World} (x : Nat) (hs : rpStp.sl w D A n c l) (hD : ∀ k, D k → k < w.heap.size) (hx : x ≤ 18446744073709551615) (hin : InStripe l x r s) (hok : SOk s) :
    Calls Try.prog 84 #[.agg (prjV e A n c), .int .i64 (r : Int), .int .u64 (x : Int)] w (PlacePost l x r w) := by
  obtain ⟨hlen, hnc, hcm⟩ := Rp.sl_len hs
  unfold maxLen at hcm
  have H : Hid ((Try.prog.info? 48).map (·.size) = some 4) := by unfold Hid; kernel_rfl
  have hb0 : Below w.heap.size w ((w.alloc (.cells (prjV e A n c) 25)).alloc (.cells #[.int .i64 0, .int .i64 0, .int .u64 0, .slice none 0 0] 48)) := ((Below.refl _ _).alloc (Nat.le_refl _) _).alloc (by simp) _
  have HK0 : Hid (Blk ((w.alloc (.cells (prjV e A n c) 25)).alloc (.cells #[.int .i64 0, .int .i64 0, .int .u64 0, .slice none 0 0] 48)) w.heap.size 25 (prjV e A n c)) := (Blk.newAt rfl _ _).alloc _
  have HK1 : Hid (Blk ((w.alloc (.cells (prjV e A n c) 25)).alloc (.cells #[.int .i64 0, .int .i64 0, .int .u64 0, .slice none 0 0] 48)) (w.heap.size + 1) 48 #[.int .i64 0, .int .i64 0, .int .u64 0, .slice none 0 0]) := Blk.newAt (size_alloc _ _) _ _
  have HS := Lib.hid (Rp.sl_below hs hb0 hD)
  have HD := Lib.hid (fun k hk => Nat.lt_of_lt_of_le (hD k hk) hb0.size)
  have HB0 := Lib.hid hb0
  have hrn : r < n := by have := (List.getElem?_eq_some_iff.1 hin.1).1; omega
  have HIN := Lib.hid hin
  have HOK := Lib.hid hok
  clear hs hD hb0 hlen hin hok
  obtain ⟨b, off, s', A2, c2, rfl, hb, hsk, g0, g1, g2, hrow, hs1, hs2⟩ := stps_at HS.out hrn
  have es : s' = s := by have := HIN.out.1; rw [hsk] at this; injection this
  subst es
  have hbz := HD.out b hb
  have hsfx : s'.1 ≤ x := HIN.out.2.1
  have hxst : x < s'.2.1 := HIN.out.2.2
  have hm1 : 1 ≤ s'.2.2.length := HOK.out.2.2.1
  have hm8 : s'.2.2.length ≤ 8 := HOK.out.2.2.2.1
  obtain ⟨K, hK⟩ : ∃ K : Nat, K = (x - s'.1) % s'.2.2.length := ⟨_, rfl⟩
  obtain ⟨N, hN⟩ : ∃ N : Nat, N = (x - s'.1) / s'.2.2.length := ⟨_, rfl⟩
  have hKl : K < s'.2.2.length := by rw [hK]; exact Nat.mod_lt _ hm1
  have hdl := dealt_any (f := s'.1) (t := s'.2.1) x hrow HD.out hs1 hs2 hx
  have hde : dealt (s'.1, s'.2.1, s'.2.2) x = (K, N, true) := by rw [hK, hN]; exact dealt_in HOK.out hsfx hxst
  rw [hde] at hdl
  have HDL := Lib.hid hdl
  have HR := Lib.hid hrow
  have HKK := Lib.hid hK
  have HNN := Lib.hid hN
  obtain ⟨sf, hsf⟩ : ∃ sf, sf = s'.1 := ⟨_, rfl⟩
  obtain ⟨st, hst⟩ : ∃ st, st = s'.2.1 := ⟨_, rfl⟩
  obtain ⟨sn, hsn⟩ : ∃ sn, sn = s'.2.2.length := ⟨_, rfl⟩
  have hdl2 := HDL.out
  rw [← hsf, ← hst, ← hsn] at hdl2
  have HDL2 := Lib.hid hdl2
  rw [← hsf] at g0 hsfx hs1
  rw [← hst] at g1 hxst hs2
  rw [← hsn] at g2 hm1 hm8 hKl
  have HSN := Lib.hid hsn
  have HSK := Lib.hid hsk
  have hr0 : (0 : Int) ≤ (r : Int) := by omega
  have hr1 : (r : Int) < (n : Int) := by omega
  clear hdl hde hrow hK hN hsf hst hsn hsk hdl2 HDL
  go_enter Try.func84, Try.ntmps84
  go_wp2_with fail
  generalize World.alloc (World.alloc w _) _ = w0 at *
  have hz0 := HB0.out.size
  refine HDL2.out.mono ?_; rintro en w1 ⟨rfl, hb1⟩
  have hkk0 := Blk.below (show Blk _ _ _ _ from HK0.out) hb1 (show Blk _ _ _ _ from HK0.out).lt
  have hz1 := hb1.size
  have hba : Below w1.heap.size w1 (w1.alloc (.cells #[] 22)) := (Below.refl _ _).alloc (Nat.le_refl _) _
  have e1 : (w1.alloc (.cells #[] 22)).cell? ⟨w.heap.size, 1, none⟩ = some (.slice (some ⟨b, off, none⟩) n c) := (hkk0.below hba hkk0.lt).cell 1
  have q2 : (w1.alloc (.cells #[] 22)).cell? ⟨b, off + r * 3 + 2, none⟩ = some (.slice A2 sn c2) := (hba.cell (p := ⟨b, off + r * 3 + 2, none⟩) (Nat.lt_of_lt_of_le hbz hz1)).trans ((hb1.cell (p := ⟨b, off + r * 3 + 2, none⟩) hbz).trans g2)
  obtain ⟨b2, off2, nd, A3, c3, rfl, hb2, hnd, hcell, hrow2⟩ := rows_at (Rp.sl_below (Rp.sl_below HR.out hb1 HD.out) hba (fun k hk => Nat.lt_of_lt_of_le (HD.out k hk) hz1)) (show K < s'.2.2.length by rw [← HSN.out]; exact hKl)
  have hndl : nd.length ≤ 8 := (HOK.out.2.2.2.2 K nd hnd).2.1
  have HSR := Lib.hid (Src.u64 hrow2)
  have HLT := Lib.hid (u64_lt hrow2)
  have hm := World.ownsRow_made (e := 22) (size := 1) (base := w.heap.size) w1 #[] 0 (by omega) (by decide) rfl
  have HM := Lib.hid hm
  have HND := Lib.hid hnd
  have HBA := Lib.hid (hb1.trans (hba.mono hz1))
  have HK1a := Lib.hid ((Blk.below (show Blk _ _ _ _ from HK1.out) hb1 (show Blk _ _ _ _ from HK1.out).lt).alloc (.cells #[] 22))
  have hl1 := (show Blk _ _ _ _ from HK1.out).lt
  have hK0 : (0 : Int) ≤ (K : Int) := by omega
  have hK1 : (K : Int) < (sn : Int) := by omega
  clear hb1 hkk0 hba hrow2 hnd hm g0 g1 g2
  go_wp2_with (first
    | (at_builtin; refine wpList_app rfl (.tmp 24) (.tmp 33) _ rfl elem64 rfl HM.out rfl HSR.out (by unfold maxLen; omega) (by omega) (by simp; omega) ?_; intro A4 c4 w4 ho4 hg4 hat4
       have hb4 : Below w.heap.size w0 w4 := (HBA.out.mono hz0).grown hg4 (by have := HBA.out.size; omega) (fun k hk => by have e : k = w1.heap.size := (by injection hk with hk; exact hk.symm); omega)
       have HB4 := Lib.hid hb4
       have HO4 := Lib.hid ho4
       have HK4 := Lib.hid (HK1a.out.grown hg4 (by show some (w.heap.size + 1) ≠ some w1.heap.size; intro e; injection e with e; omega))
       clear ho4 hg4 hat4 hb4)
    | (refine wpList_put_row rfl 48 (.tmp 6) (.tmp 35) rfl (w.heap.size + 1) _ rfl rfl 48 _ (show Blk _ _ _ _ from HK4.out) H.out rfl (by simp [Value.oneCell']) ?_; intro w5 hblk hgr))
  have ho4 := HO4.out
  rw [Nat.zero_add, List.nil_append] at ho4
  have hne : some (w.heap.size + 1) ≠ (Value.slice A4 nd.length c4).ownBlock := fun h => by
    rcases ho4.2 with ⟨hv, _⟩ | ⟨q, cap, cur, hv, _, hh, _⟩
    · rw [hv] at h; cases h
    · rw [hv] at h
      simp only [Value.ownBlock, Option.some.injEq] at h
      have hk4 := (show Blk _ _ _ _ from HK4.out)
      unfold Blk at hk4
      rw [h, hh] at hk4
      injection hk4 with hk4
      injection hk4 with _ he
      exact absurd he (by decide)
  have ho5 := ho4.kept hgr (.inr (fun e => hne e.symm))
  have hbz5 : Below w.heap.size w w5 := (HB0.out.trans HB4.out).grown hgr (by have := HB4.out.size; omega) (fun k hk => by injection hk with hk; omega)
  refine bodyPost_ret (results_cell_row rfl _ _ (w.heap.size + 1) 48 _ (0, 0) _ rfl hblk Try.underlying48 rfl H.out) rfl ?_
  refine ⟨K, N, nd, A4, nd.length, c4, fun k => some k = (Value.slice A4 nd.length c4).ownBlock, by simp, ⟨s', HIN.out, HOK.out, HKK.out, HNN.out, HND.out⟩, own_u64 ho5 HLT.out, fun k hk => ⟨(ho5.lt k hk.symm).1, (ho5.lt k hk.symm).2⟩, hbz5⟩
end Go.Proofs.Ytmdgmnaaopineaa
/- locate.At and locate.Pos. -/
namespace Go.Proofs.Ytmdgmnaaopineaa
open Go.ChangeShapes Go.WideShapes Go.ChangeAt Go.RowKit
set_option linter.unusedVariables false
abbrev plcZ : Array Value := #[.int .i64 0, .int .i64 0, .int .u64 0, .slice none 0 0]
def AtPost (l : List Stp) (x : Nat) (w : World) (en : Ending) (w' : World) : Prop :=
  ∃ (r K N : Nat) (nd : List Nat) (A2 : Option Addr) (n2 c2 : Nat) (D2 : Dom), en = .returned (.tuple #[.agg #[.int .i64 (r : Int), .int .i64 (K : Int), .int .u64 (N : Int), .slice A2 n2 c2], .int .i64 0]) ∧ PlaceIs l x r K N nd ∧ rpU64.sl w' D2 A2 n2 c2 nd ∧ (∀ k, D2 k → w.heap.size ≤ k ∧ k < w'.heap.size) ∧ Below w.heap.size w w'
section
variable {D : Dom} {A : Option Addr} {n c e : Nat} {l : List Stp} {w : World}
set_option maxRecDepth 100000 in
theorem at_ok (x : Nat) (hs : rpStp.sl w D A n c l) (hD : ∀ k, D k → k < w.heap.size) (he : e ≤ 18446744073709551615) (hx : x ≤ 18446744073709551615) (hok : POk (e, l)) (hpos : PosOk x) :
    Calls Try.prog 24 #[.agg (prjV e A n c), .int .u64 (x : Int)] w (AtPost l x w) := by
  have H : Hid ((Try.prog.info? 48).map (·.size) = some 4) := by unfold Hid; kernel_rfl
  have hb0 : Below w.heap.size w ((w.alloc (.cells (prjV e A n c) 25)).alloc (.cells plcZ 48)) := ((Below.refl _ _).alloc (Nat.le_refl _) _).alloc (by simp) _
  have HK0 : Hid (Blk ((w.alloc (.cells (prjV e A n c) 25)).alloc (.cells plcZ 48)) w.heap.size 25 (prjV e A n c)) := (Blk.newAt rfl _ _).alloc _
  have HK1 : Hid (Blk ((w.alloc (.cells (prjV e A n c) 25)).alloc (.cells plcZ 48)) (w.heap.size + 1) 48 plcZ) := Blk.newAt (size_alloc _ _) _ _
  have hr := pright_any (Rp.sl_below hs hb0 hD) (fun k hk => Nat.lt_of_lt_of_le (hD k hk) hb0.size) he
  rw [dec_true hok] at hr
  have HR := Lib.hid hr
  have HS := Lib.hid (Rp.sl_below hs hb0 hD)
  have HD := Lib.hid (fun k hk => Nat.lt_of_lt_of_le (hD k hk) hb0.size)
  have HB0 := Lib.hid hb0
  have HOK := Lib.hid hok
  have HPO := Lib.hid hpos
  clear hr hs hD hb0 hok hpos
  go_enter Try.func24, Try.ntmps24
  go_wp2_with fail
  generalize World.alloc (World.alloc w _) _ = w0 at *
  have hz0 := HB0.out.size
  have hl0 := (show Blk _ _ _ _ from HK0.out).lt
  have hl1 := (show Blk _ _ _ _ from HK1.out).lt
  refine HR.out.mono ?_; rintro en w1 ⟨rfl, hb1⟩
  have hk0 := Blk.below (show Blk _ _ _ _ from HK0.out) hb1 hl0
  have e0 : w1.cell? ⟨w.heap.size, 0, none⟩ = some (.int .u64 (e : Int)) := hk0.cell 0
  have e1 : w1.cell? ⟨w.heap.size, 1, none⟩ = some (.slice A n c) := hk0.cell 1
  have B1 := Lib.hid hb1
  clear hb1 hk0
  go_wp2_with fail
  refine (lstripe_any x (Rp.sl_below HS.out B1.out HD.out) (fun k hk => Nat.lt_of_lt_of_le (HD.out k hk) B1.out.size) he hx HOK.out HPO.out).mono ?_; rintro en w2 ⟨r, s, rfl, hin, hb2⟩
  have hb2' := B1.out.trans (hb2.mono B1.out.size)
  have hk0 := Blk.below (show Blk _ _ _ _ from HK0.out) hb2' hl0
  clear e0 e1
  have e0 : w2.cell? ⟨w.heap.size, 0, none⟩ = some (.int .u64 (e : Int)) := hk0.cell 0
  have e1 : w2.cell? ⟨w.heap.size, 1, none⟩ = some (.slice A n c) := hk0.cell 1
  have B2 := Lib.hid hb2'
  have HIN := Lib.hid hin
  clear hb2 hb2' hk0 hin
  go_wp2_with fail
  have hsok : SOk s := (HOK.out.1.2 r s (List.getElem?_eq_some_iff.1 HIN.out.1).1 HIN.out.1).1
  refine (place_any x (Rp.sl_below HS.out B2.out HD.out) (fun k hk => Nat.lt_of_lt_of_le (HD.out k hk) B2.out.size) hx HIN.out hsok).mono ?_; rintro en w3 ⟨K, N, nd, A2, n2, c2, D2, rfl, hpl, hs2, hd2, hb3⟩
  have hb3' := B2.out.trans (hb3.mono B2.out.size)
  have HK3 := Lib.hid (Blk.below (show Blk _ _ _ _ from HK1.out) hb3' hl1)
  have B3 := Lib.hid hb3'
  have HPL := Lib.hid hpl
  have HS2 := Lib.hid hs2
  have HD2 := Lib.hid hd2
  clear e0 e1 hb3 hb3' hpl hs2 hd2 hsok
  go_wp2_with (refine wpList_put_row rfl 48 (.tmp 4) (.tmp 24) rfl (w.heap.size + 1) _ rfl rfl 48 _ (show Blk _ _ _ _ from HK3.out) H.out rfl (by simp [Value.oneCell']) ?_; intro w5 hblk hgr)
  have z2 := B2.out.size
  have hbz : Below w.heap.size w w5 := (HB0.out.trans (B3.out.mono hz0)).grown hgr (by have := B3.out.size; omega) (fun k hk => by injection hk with hk; omega)
  have f0 := hblk.cell 0
  have f1 := hblk.cell 1
  have f2 := hblk.cell 2
  have f3 := hblk.cell 3
  refine bodyPost_ret (v := .tuple #[.agg #[.int .i64 (r : Int), .int .i64 (K : Int), .int .u64 (N : Int), .slice A2 n2 c2], .int .i64 0]) (by simp [results, Try.results24, go_sem, f0, f1, f2, f3]) rfl ?_
  exact ⟨r, K, N, nd, A2, n2, c2, D2, rfl, HPL.out, Rp.sl_keep HS2.out (fun k hk => hgr.block k (HD2.out k hk).2 (fun e => by injection e with e; have := (HD2.out k hk).1; omega)), fun k hk => ⟨by have := (HD2.out k hk).1; omega, Nat.lt_of_lt_of_le (HD2.out k hk).2 hgr.size⟩, hbz⟩
set_option maxRecDepth 100000 in
theorem at_bad (x : Nat) (cd : Int) (hs : rpStp.sl w D A n c l) (hD : ∀ k, D k → k < w.heap.size) (he : e ≤ 18446744073709551615) (hx : x ≤ 18446744073709551615) (hno : (¬ POk (e, l) ∧ cd = 3) ∨ (POk (e, l) ∧ ¬ PosOk x ∧ cd = 17)) :
    Calls Try.prog 24 #[.agg (prjV e A n c), .int .u64 (x : Int)] w fun en w' => en = .returned (.tuple #[.agg plcZ, .int .i64 cd]) ∧ Below w.heap.size w w' := by
  have H : Hid ((Try.prog.info? 48).map (·.size) = some 4) := by unfold Hid; kernel_rfl
  have hb0 : Below w.heap.size w ((w.alloc (.cells (prjV e A n c) 25)).alloc (.cells plcZ 48)) := ((Below.refl _ _).alloc (Nat.le_refl _) _).alloc (by simp) _
  have HK0 : Hid (Blk ((w.alloc (.cells (prjV e A n c) 25)).alloc (.cells plcZ 48)) w.heap.size 25 (prjV e A n c)) := (Blk.newAt rfl _ _).alloc _
  have HK1 : Hid (Blk ((w.alloc (.cells (prjV e A n c) 25)).alloc (.cells plcZ 48)) (w.heap.size + 1) 48 plcZ) := Blk.newAt (size_alloc _ _) _ _
  have hr := pright_any (Rp.sl_below hs hb0 hD) (fun k hk => Nat.lt_of_lt_of_le (hD k hk) hb0.size) he
  have HS := Lib.hid (Rp.sl_below hs hb0 hD)
  have HD := Lib.hid (fun k hk => Nat.lt_of_lt_of_le (hD k hk) hb0.size)
  have HB0 := Lib.hid hb0
  clear hs hD hb0
  rcases hno with ⟨hno, rfl⟩ | ⟨hok, hno, rfl⟩
  · rw [dec_false hno] at hr
    have HR := Lib.hid hr
    clear hr hno
    go_enter Try.func24, Try.ntmps24
    go_wp2_with fail
    generalize World.alloc (World.alloc w _) _ = w0 at *
    have hz0 := HB0.out.size
    have hl1 := (show Blk _ _ _ _ from HK1.out).lt
    refine HR.out.mono ?_; rintro en w1 ⟨rfl, hb1⟩
    have HK3 := Lib.hid (Blk.below (show Blk _ _ _ _ from HK1.out) hb1 hl1)
    have B1 := Lib.hid hb1
    clear hb1
    go_wp2_with (refine wpList_put_row rfl 48 (.tmp 4) (.tmp 11) rfl (w.heap.size + 1) _ rfl rfl 48 _ (show Blk _ _ _ _ from HK3.out) H.out rfl (by simp [Value.oneCell']) ?_; intro w5 hblk hgr)
    have hbz : Below w.heap.size w w5 := (HB0.out.trans (B1.out.mono hz0)).grown hgr (by have := B1.out.size; omega) (fun k hk => by injection hk with hk; omega)
    have f0 := hblk.cell 0
    have f1 := hblk.cell 1
    have f2 := hblk.cell 2
    have f3 := hblk.cell 3
    exact bodyPost_ret (v := .tuple #[.agg plcZ, .int .i64 3]) (by simp [results, Try.results24, go_sem, f0, f1, f2, f3]) rfl ⟨rfl, hbz⟩
  · rw [dec_true hok] at hr
    have HR := Lib.hid hr
    have HNO := Lib.hid (show ¬ (POk (e, l) ∧ PosOk x) from fun h => hno h.2)
    clear hr hno hok
    go_enter Try.func24, Try.ntmps24
    go_wp2_with fail
    generalize World.alloc (World.alloc w _) _ = w0 at *
    have hz0 := HB0.out.size
    have hl0 := (show Blk _ _ _ _ from HK0.out).lt
    have hl1 := (show Blk _ _ _ _ from HK1.out).lt
    refine HR.out.mono ?_; rintro en w1 ⟨rfl, hb1⟩
    have hk0 := Blk.below (show Blk _ _ _ _ from HK0.out) hb1 hl0
    have e0 : w1.cell? ⟨w.heap.size, 0, none⟩ = some (.int .u64 (e : Int)) := hk0.cell 0
    have e1 : w1.cell? ⟨w.heap.size, 1, none⟩ = some (.slice A n c) := hk0.cell 1
    have B1 := Lib.hid hb1
    clear hb1 hk0
    go_wp2_with fail
    refine (lstripe_bad x (Rp.sl_below HS.out B1.out HD.out) (fun k hk => Nat.lt_of_lt_of_le (HD.out k hk) B1.out.size) he hx HNO.out).mono ?_; rintro en w2 ⟨rfl, hb2⟩
    have hb2' := B1.out.trans (hb2.mono B1.out.size)
    have HK3 := Lib.hid (Blk.below (show Blk _ _ _ _ from HK1.out) hb2' hl1)
    have B2 := Lib.hid hb2'
    clear hb2 hb2' e0 e1
    go_wp2_with (refine wpList_put_row rfl 48 (.tmp 4) (.tmp 20) rfl (w.heap.size + 1) _ rfl rfl 48 _ (show Blk _ _ _ _ from HK3.out) H.out rfl (by simp [Value.oneCell']) ?_; intro w5 hblk hgr)
    have hbz : Below w.heap.size w w5 := (HB0.out.trans (B2.out.mono hz0)).grown hgr (by have := B2.out.size; omega) (fun k hk => by injection hk with hk; omega)
    have f0 := hblk.cell 0
    have f1 := hblk.cell 1
    have f2 := hblk.cell 2
    have f3 := hblk.cell 3
    exact bodyPost_ret (v := .tuple #[.agg plcZ, .int .i64 17]) (by simp [results, Try.results24, go_sem, f0, f1, f2, f3]) rfl ⟨rfl, hbz⟩
/-- Which position is at a place. -/
noncomputable def posAt (l : List Stp) (r : Int) (set : Int) (loc : Nat) : Nat × Bool := if 0 ≤ r then match l[r.toNat]? with
  | some s => back s set loc
  | none => (0, false) else (0, false)
theorem posAt_in {l : List Stp} {r : Nat} {s : Stp} (set : Int) (loc : Nat) (h : l[r]? = some s) : posAt l (r : Int) set loc = back s set loc := by
  unfold posAt
  rw [if_pos (by omega), Int.toNat_natCast, h]
theorem posAt_out {l : List Stp} {r set : Int} {loc : Nat} (h : r < 0 ∨ (l.length : Int) ≤ r) : posAt l r set loc = (0, false) := by
  unfold posAt
  split
  · rw [List.getElem?_eq_none (by omega)]
  · rfl
end
end Go.Proofs.Ytmdgmnaaopineaa
/- locate.Pos; whether two lists of numbers are the same; in which stripe, by the reference. -/
namespace Go.Proofs.Ytmdgmnaaopineaa
open Go.ChangeShapes Go.WideShapes Go.ChangeAt Go.RowKit
set_option linter.unusedVariables false
section
variable {D : Dom} {A : Option Addr} {n c e : Nat} {l : List Stp} {w : World}
theorem pos_bad (r set : Int) (loc : Nat) (hs : rpStp.sl w D A n c l) (hD : ∀ k, D k → k < w.heap.size) (he : e ≤ 18446744073709551615) (hno : ¬ POk (e, l)) :
    Calls Try.prog 30 #[.agg (prjV e A n c), .int .i64 r, .int .i64 set, .int .u64 (loc : Int)] w fun en w' => en = .returned (.tuple #[.int .u64 0, .int .i64 3]) ∧ Below w.heap.size w w' := by
  have hb0 : Below w.heap.size w (w.alloc (.cells (prjV e A n c) 25)) := (Below.refl _ _).alloc (Nat.le_refl _) _
  have hr := pright_any (Rp.sl_below hs hb0 hD) (fun k hk => Nat.lt_of_lt_of_le (hD k hk) hb0.size) he
  rw [dec_false hno] at hr
  have HR := Lib.hid hr
  have HB0 := Lib.hid hb0
  clear hr hs hD hb0 hno
  go_enter Try.func30, Try.ntmps30
  go_wp2_with fail
  refine HR.out.mono ?_; rintro en w1 ⟨rfl, hb1⟩
  go_wp2_with fail
  go_ret2
  exact ⟨rfl, HB0.out.trans (hb1.mono HB0.out.size)⟩
set_option maxRecDepth 100000 in
theorem pos_any (r set : Int) (loc : Nat) (hs : rpStp.sl w D A n c l) (hD : ∀ k, D k → k < w.heap.size) (he : e ≤ 18446744073709551615) (hl : loc ≤ 18446744073709551615) (hok : POk (e, l)) (h0 : -9223372036854775808 ≤ r) (h1 : r ≤ 9223372036854775807) :
    Calls Try.prog 30 #[.agg (prjV e A n c), .int .i64 r, .int .i64 set, .int .u64 (loc : Int)] w fun en w' => en = .returned (.tuple #[.int .u64 ((posAt l r set loc).1 : Int), .int .i64 (if (posAt l r set loc).2 then 0 else 16)]) ∧ Below w.heap.size w w' := by
  obtain ⟨hlen, hnc, hcm⟩ := Rp.sl_len hs
  unfold maxLen at hcm
  subst hlen
  have hb0 : Below w.heap.size w (w.alloc (.cells (prjV e A l.length c) 25)) := (Below.refl _ _).alloc (Nat.le_refl _) _
  have hr := pright_any (Rp.sl_below hs hb0 hD) (fun k hk => Nat.lt_of_lt_of_le (hD k hk) hb0.size) he
  rw [dec_true hok] at hr
  have HR := Lib.hid hr
  have HB0 := Lib.hid hb0
  have HS := Lib.hid (Rp.sl_below hs hb0 hD)
  have HD := Lib.hid (fun k hk => Nat.lt_of_lt_of_le (hD k hk) hb0.size)
  have HK := Lib.hid (Blk.new w 25 (prjV e A l.length c))
  clear hr hs hD hb0 hok
  by_cases hin : 0 ≤ r ∧ r < l.length
  case neg =>
    rw [posAt_out (by omega)]
    have hc : r < 0 ∨ (0 ≤ r ∧ (l.length : Int) ≤ r) := by omega
    clear hin
    rcases hc with hc | ⟨hc, hc2⟩
    all_goals
      go_enter Try.func30, Try.ntmps30
      go_wp2_with fail
      generalize World.alloc w _ = w0 at *
      refine HR.out.mono ?_; rintro en w1 ⟨rfl, hb1⟩
      have hk := Blk.below (show Blk _ _ _ _ from HK.out) hb1 (show Blk _ _ _ _ from HK.out).lt
      have c1 : w1.cell? ⟨w.heap.size, 1, none⟩ = some (.slice A l.length c) := hk.cell 1
      have HB1 := Lib.hid hb1
      clear hb1 hk
      go_wp2_with fail
      go_ret2
      exact ⟨rfl, HB0.out.trans (HB1.out.mono HB0.out.size)⟩
  obtain ⟨hr0, hr1⟩ := hin
  obtain ⟨q, rfl⟩ : ∃ q : Nat, r = q := ⟨r.toNat, by omega⟩
  have hq : q < l.length := by omega
  obtain ⟨b, off, s, A2, c2, rfl, hb, hsk, g0, g1, g2, hrow, hs1, hs2⟩ := stps_at HS.out hq
  rw [posAt_in set loc hsk]
  have hbz := HD.out b hb
  have HROW := Lib.hid hrow
  obtain ⟨sf, hsf⟩ : ∃ sf, sf = s.1 := ⟨_, rfl⟩
  obtain ⟨st, hst⟩ : ∃ st, st = s.2.1 := ⟨_, rfl⟩
  obtain ⟨sn, hsn⟩ : ∃ sn, sn = s.2.2.length := ⟨_, rfl⟩
  obtain ⟨P, hP⟩ : ∃ P : Nat, P = (back s set loc).1 := ⟨_, rfl⟩
  obtain ⟨pb, hpb⟩ : ∃ pb : Bool, pb = (back s set loc).2 := ⟨_, rfl⟩
  have hbk : Hid (∀ w1 : World, Below (w.alloc (.cells (prjV e (some ⟨b, off, none⟩) l.length c) 25)).heap.size (w.alloc (.cells (prjV e (some ⟨b, off, none⟩) l.length c) 25)) w1 → Calls Try.prog 64 #[.agg (stpV sf st A2 sn c2), .int .i64 set, .int .u64 (loc : Int)] w1 fun en w' => en = .returned (.tuple #[.int .u64 (P : Int), .bool pb]) ∧ Below w1.heap.size w1 w') := fun w1 hb1 => by
    have := back_any (f := s.1) (t := s.2.1) set loc (Rp.sl_below HROW.out hb1 HD.out) (fun k hk => Nat.lt_of_lt_of_le (HD.out k hk) hb1.size) hs1 hs2 hl
    rw [hsf, hst, hsn, hP, hpb]
    exact this
  have hPz : Hid (pb = false → P = 0) := fun h => by
    rw [hpb] at h
    rw [hP]
    unfold back at *
    split at h
    · rw [if_pos ‹_›]
    · simp at h
  rw [← hsf] at g0
  rw [← hst] at g1
  rw [← hsn] at g2
  rw [← hP, ← hpb]
  clear hrow hsk hs1 hs2 hsf hst hsn hP hpb
  cases pb
  all_goals
    go_enter Try.func30, Try.ntmps30
    go_wp2_with fail
    generalize World.alloc w _ = w0 at *
    refine HR.out.mono ?_; rintro en w1 ⟨rfl, hb1⟩
    have hk := Blk.below (show Blk _ _ _ _ from HK.out) hb1 (show Blk _ _ _ _ from HK.out).lt
    have c1 : w1.cell? ⟨w.heap.size, 1, none⟩ = some (.slice (some ⟨b, off, none⟩) l.length c) := hk.cell 1
    have q0 := (hb1.cell (p := ⟨b, off + q * 3, none⟩) hbz).trans g0
    have q1 := (hb1.cell (p := ⟨b, off + q * 3 + 1, none⟩) hbz).trans g1
    have q2 := (hb1.cell (p := ⟨b, off + q * 3 + 2, none⟩) hbz).trans g2
    have HB1 := Lib.hid hb1
    clear hb1 hk g0 g1 g2
    go_wp2_with fail
    refine (hbk.out _ HB1.out).mono ?_; rintro en w2 ⟨rfl, hb2⟩
    clear c1 q0 q1 q2
    go_wp2_with fail
    go_ret2
    exact ⟨by first | (simp; done) | (rw [hPz.out (by simp)]; simp), HB0.out.trans ((HB1.out.trans (hb2.mono HB1.out.size)).mono HB0.out.size)⟩
end
theorem same05_any {D D' : Dom} {A A' : Option Addr} {n c n' c' : Nat} {l l' : List Nat} {w : World} (hs : rpU64.sl w D A n c l) (hs' : rpU64.sl w D' A' n' c' l') (hD : ∀ k, D k → k < w.heap.size) (hD' : ∀ k, D' k → k < w.heap.size) :
    Calls Try.prog 31 #[.slice A n c, .slice A' n' c'] w fun en w' => en = .returned (.bool (dec (l = l'))) ∧ Below w.heap.size w w' := by
  obtain ⟨hlen, hnc, hcm⟩ := Rp.sl_len hs
  obtain ⟨hlen', hnc', hcm'⟩ := Rp.sl_len hs'
  unfold maxLen at hcm hcm'
  have HL := Lib.hid hs
  have HL' := Lib.hid hs'
  have HN := Lib.hid hlen
  have HN' := Lib.hid hlen'
  have HD := Lib.hid hD
  have HD' := Lib.hid hD'
  clear hs hs' hlen hlen' hD hD'
  by_cases hne : n = n'
  case neg =>
    have hd : ((n : Int) != (n' : Int)) = true := by simp; omega
    rw [dec_false (fun h : l = l' => hne (by rw [← HN.out, ← HN'.out, h]))]
    clear hne
    go_enter Try.func31, Try.ntmps31
    go_wp2_with fail
    go_ret
    exact ⟨rfl, Below.refl _ _⟩
  subst hne
  go_enter Try.func31, Try.ntmps31
  go_wp2_with fail
  go_loopw [5] (fun i wr => ∃ k : Nat, k ≤ n ∧ i = .int .i64 k ∧ Hid (∀ (j : Nat), j < k → l[j]? = l'[j]?) ∧ Below w.heap.size w wr) (fun i _ => n - (intOf i).toNat)
  case atStart => exact ⟨0, by omega, rfl, fun j h => by omega, Below.refl _ _⟩
  case round =>
    obtain ⟨k, hk, rfl, hsh, hbr⟩ := hrel
    have HB := Lib.hid hbr
    by_cases hkn : k < n
    · obtain ⟨b, off, y, rfl, hb, hy, hc, hlt⟩ := u64_at (Rp.sl_below HL.out hbr HD.out) hkn
      obtain ⟨b', off', z, rfl, hb', hz, hc', hlt'⟩ := u64_at (Rp.sl_below HL'.out hbr HD'.out) hkn
      have hd : decide ((k : Int) < (n : Int)) = true := by simp; omega
      have hk0 : (0 : Int) ≤ (k : Int) := by omega
      have hk1 : (k : Int) < (n : Int) := by omega
      have HY := Lib.hid hy
      have HZ := Lib.hid hz
      clear hy hz hbr
      by_cases hyz : y = z
      · have hq : ((y : Int) != (z : Int)) = false := by simp; omega
        have HYZ := Lib.hid hyz
        clear hyz
        go_wp2_with fail
        go_quiet (fail)
        go_wp2_with fail
        go_roundw
        case rel =>
          refine ⟨k + 1, by omega, by go_num, fun j hj => ?_, HB.out.trans ⟨rfl, rfl, rfl, Nat.le_refl _, fun _ _ => rfl⟩⟩
          rcases Nat.lt_or_ge j k with h | h
          · exact hsh.out j h
          · obtain rfl : j = k := by omega
            rw [HY.out, HZ.out, HYZ.out]
        case measure => simp [intOf]; omega
      · have hq : ((y : Int) != (z : Int)) = true := by simp; omega
        have hno := Lib.hid (show ¬ l = l' from fun h => hyz (by have h1 := HY.out; rw [h, HZ.out] at h1; injection h1 with h1; exact h1.symm))
        clear hyz
        go_wp2_with fail
        go_quiet (fail)
        go_wp2_with fail
        go_ret
        rw [dec_false hno.out]
        exact ⟨rfl, HB.out.trans ⟨rfl, rfl, rfl, Nat.le_refl _, fun _ _ => rfl⟩⟩
    · obtain rfl : k = n := by omega
      have hd : decide ((k : Int) < (k : Int)) = false := by simp
      clear hbr
      go_wp2_with fail
      go_ret
      have hyes : l = l' := List.ext_getElem? (fun j => by
        rcases Nat.lt_or_ge j k with h | h
        · exact hsh.out j h
        · rw [List.getElem?_eq_none (by rw [HN.out]; exact h), List.getElem?_eq_none (by rw [HN'.out]; exact h)])
      rw [dec_true hyes]
      exact ⟨rfl, HB.out⟩
end Go.Proofs.Ytmdgmnaaopineaa
/- The example of chapter 21's laws. -/
namespace Go.Proofs.Ytmdgmnaaopineaa
open Go.ChangeShapes Go.WideShapes Go.ChangeAt Go.RowKit
set_option linter.unusedVariables false
theorem seven_blks (w : World) (c0 c1 c2 c3 c4 c5 c6 : Array Value) (t0 t1 t2 t3 t4 t5 t6 : TypeId) :
    Blk (((((((w.alloc (.cells c0 t0)).alloc (.cells c1 t1)).alloc (.cells c2 t2)).alloc (.cells c3 t3)).alloc (.cells c4 t4)).alloc (.cells c5 t5)).alloc (.cells c6 t6)) (w.heap.size) t0 c0 ∧
    Blk (((((((w.alloc (.cells c0 t0)).alloc (.cells c1 t1)).alloc (.cells c2 t2)).alloc (.cells c3 t3)).alloc (.cells c4 t4)).alloc (.cells c5 t5)).alloc (.cells c6 t6)) (w.heap.size + 1) t1 c1 ∧
    Blk (((((((w.alloc (.cells c0 t0)).alloc (.cells c1 t1)).alloc (.cells c2 t2)).alloc (.cells c3 t3)).alloc (.cells c4 t4)).alloc (.cells c5 t5)).alloc (.cells c6 t6)) (w.heap.size + 1 + 1) t2 c2 ∧
    Blk (((((((w.alloc (.cells c0 t0)).alloc (.cells c1 t1)).alloc (.cells c2 t2)).alloc (.cells c3 t3)).alloc (.cells c4 t4)).alloc (.cells c5 t5)).alloc (.cells c6 t6)) (w.heap.size + 1 + 1 + 1) t3 c3 ∧
    Blk (((((((w.alloc (.cells c0 t0)).alloc (.cells c1 t1)).alloc (.cells c2 t2)).alloc (.cells c3 t3)).alloc (.cells c4 t4)).alloc (.cells c5 t5)).alloc (.cells c6 t6)) (w.heap.size + 1 + 1 + 1 + 1) t4 c4 ∧
    Blk (((((((w.alloc (.cells c0 t0)).alloc (.cells c1 t1)).alloc (.cells c2 t2)).alloc (.cells c3 t3)).alloc (.cells c4 t4)).alloc (.cells c5 t5)).alloc (.cells c6 t6)) (w.heap.size + 1 + 1 + 1 + 1 + 1) t5 c5 ∧
    Blk (((((((w.alloc (.cells c0 t0)).alloc (.cells c1 t1)).alloc (.cells c2 t2)).alloc (.cells c3 t3)).alloc (.cells c4 t4)).alloc (.cells c5 t5)).alloc (.cells c6 t6)) (w.heap.size + 1 + 1 + 1 + 1 + 1 + 1) t6 c6 ∧ Below w.heap.size w (((((((w.alloc (.cells c0 t0)).alloc (.cells c1 t1)).alloc (.cells c2 t2)).alloc (.cells c3 t3)).alloc (.cells c4 t4)).alloc (.cells c5 t5)).alloc (.cells c6 t6)) ∧ (((((((w.alloc (.cells c0 t0)).alloc (.cells c1 t1)).alloc (.cells c2 t2)).alloc (.cells c3 t3)).alloc (.cells c4 t4)).alloc (.cells c5 t5)).alloc (.cells c6 t6)).heap.size = w.heap.size + 7 := by
  refine ⟨(((((((Blk.newAt rfl t0 c0).alloc _).alloc _).alloc _).alloc _).alloc _).alloc _), ((((((Blk.newAt (by simp only [size_alloc]) t1 c1).alloc _).alloc _).alloc _).alloc _).alloc _), (((((Blk.newAt (by simp only [size_alloc]) t2 c2).alloc _).alloc _).alloc _).alloc _), ((((Blk.newAt (by simp only [size_alloc]) t3 c3).alloc _).alloc _).alloc _), (((Blk.newAt (by simp only [size_alloc]) t4 c4).alloc _).alloc _), ((Blk.newAt (by simp only [size_alloc]) t5 c5).alloc _), (Blk.newAt (by simp only [size_alloc]) t6 c6), ?_, by simp only [size_alloc]⟩
  exact ((((((((Below.refl _ w).alloc (by (try simp only [size_alloc]); omega) _).alloc (by (try simp only [size_alloc]); omega) _).alloc (by (try simp only [size_alloc]); omega) _).alloc (by (try simp only [size_alloc]); omega) _).alloc (by (try simp only [size_alloc]); omega) _).alloc (by (try simp only [size_alloc]); omega) _).alloc (by (try simp only [size_alloc]); omega) _)

abbrev exL : List Stp := [(0, 4, [[1], [2]]), (4, 4611686018427387904, [[3]])]
theorem setOk_one (sets : List (List Nat)) (i x : Nat) (hx : x < 4294967296) (h : ∀ (j : Nat) (o : List Nat), j < i → sets[j]? = some o → x ∉ o) : SetOk sets i [x] := by
  refine ⟨by simp, by simp, fun i a b ha hb => by simp at hb, fun a ha => by simp at ha; omega, fun j o hj ho y hy => ?_⟩
  simp only [List.mem_singleton] at hy
  subst hy
  exact h j o hj ho
theorem sOk_a : SOk (0, 4, [[1], [2]]) := by
  refine ⟨by decide, by decide, by decide, by decide, fun i l hl => ?_⟩
  match i, hl with
  | 0, hl => cases hl; exact setOk_one _ _ _ (by decide) (fun j o hj => by omega)
  | 1, hl =>
    cases hl
    refine setOk_one _ _ _ (by decide) (fun j o hj ho => ?_)
    obtain rfl : j = 0 := by omega
    cases ho
    decide
  | i + 2, hl => simp at hl
theorem sOk_b : SOk (4, 4611686018427387904, [[3]]) := by
  refine ⟨by decide, by decide, by decide, by decide, fun i l hl => ?_⟩
  match i, hl with
  | 0, hl => cases hl; exact setOk_one _ _ _ (by decide) (fun j o hj => by omega)
  | i + 1, hl => simp at hl
theorem pOk_ex : POk (1, exL) := by
  refine ⟨⟨⟨⟨by decide, by decide⟩, by decide, by decide⟩, fun i s hi hs => ?_⟩, rfl⟩
  match i, hs with
  | 0, hs => cases hs; exact ⟨sOk_a, rfl⟩
  | 1, hs => cases hs; exact ⟨sOk_b, rfl⟩
  | i + 2, hs => simp at hs
theorem place_ex {r K N : Nat} {nd : List Nat} (h : PlaceIs exL 3 r K N nd) : r = 0 ∧ K = 1 ∧ N = 1 ∧ nd = [2] := by
  obtain ⟨s, ⟨hs, h1, h2⟩, _, hK, hN, hnd⟩ := h
  match r, hs with
  | 0, hs =>
    cases hs
    subst hK
    have : (2 : Nat) = 2 := rfl
    refine ⟨rfl, rfl, hN, ?_⟩
    simp at hnd
    exact hnd.symm
  | 1, hs => cases hs; omega
  | r + 2, hs => simp at hs
theorem lclive_any (w : World) : Calls Try.prog 26 #[] w fun e w' => e = .returned (.bool true) ∧ Below w.heap.size w w' := by
  obtain ⟨k0, k1, k2, k3, k4, k5, k6, hb, hz⟩ := seven_blks w (#[.int .u64 1]) (#[.int .u64 2]) (#[.slice (some ⟨w.heap.size, 0, none⟩) 1 1, .slice (some ⟨w.heap.size + 1, 0, none⟩) 1 1]) (#[.int .u64 3]) (#[.slice (some ⟨w.heap.size + 1 + 1 + 1, 0, none⟩) 1 1]) (#[.int .u64 0, .int .u64 4, .slice (some ⟨w.heap.size + 1 + 1, 0, none⟩) 2 2, .int .u64 4, .int .u64 4611686018427387904, .slice (some ⟨w.heap.size + 1 + 1 + 1 + 1, 0, none⟩) 1 1]) (#[.int .u64 1, .slice (some ⟨w.heap.size + 1 + 1 + 1 + 1 + 1, 0, none⟩) 2 2]) 22 22 46 22 46 31 25
  have K0 := Lib.hid k0
  have K1 := Lib.hid k1
  have K2 := Lib.hid k2
  have K3 := Lib.hid k3
  have K4 := Lib.hid k4
  have K5 := Lib.hid k5
  have K6 := Lib.hid k6
  have HB := Lib.hid hb
  have HZ := Lib.hid hz
  clear k0 k1 k2 k3 k4 k5 k6 hb hz
  go_enter Try.func26, Try.ntmps26
  go_wp2_with fail
  generalize World.alloc (World.alloc (World.alloc (World.alloc (World.alloc (World.alloc (World.alloc w _) _) _) _) _) _) _ = w0 at *
  have hz := HZ.out
  have hone : ∀ (g x : Nat), x < 18446744073709551616 → w.heap.size ≤ g → g < w0.heap.size → Blk w0 g 22 #[.int .u64 (x : Int)] → rpU64.sl w0 (fun k => w.heap.size ≤ k ∧ k < w0.heap.size) (some ⟨g, 0, none⟩) 1 1 [x] := fun g x hx h1 h2 hb =>
    Rp.sl_block (r := rpU64) rfl hb ⟨h1, h2⟩ rfl (by decide) (fun i y hy => by
      match i, hy with
      | 0, hy => cases hy; exact ⟨_, rfl, u64_ok _ _ _ hx⟩)
  have hA : (rpSlice rpU64).sl w0 (fun k => w.heap.size ≤ k ∧ k < w0.heap.size) (some ⟨w.heap.size + 1 + 1, 0, none⟩) 2 2 [[1], [2]] := by
    refine Rp.sl_block rfl (show Blk _ _ _ _ from K2.out) ⟨by omega, by omega⟩ rfl (by decide) (fun i x hx => ?_)
    match i, hx with
    | 0, hx => cases hx; exact ⟨_, rfl, hone w.heap.size 1 (by decide) (by omega) (by omega) K0.out⟩
    | 1, hx => cases hx; exact ⟨_, rfl, hone (w.heap.size + 1) 2 (by decide) (by omega) (by omega) K1.out⟩
  have hB : (rpSlice rpU64).sl w0 (fun k => w.heap.size ≤ k ∧ k < w0.heap.size) (some ⟨w.heap.size + 1 + 1 + 1 + 1, 0, none⟩) 1 1 [[3]] := by
    refine Rp.sl_block rfl (show Blk _ _ _ _ from K4.out) ⟨by omega, by omega⟩ rfl (by decide) (fun i x hx => ?_)
    match i, hx with
    | 0, hx => cases hx; exact ⟨_, rfl, hone (w.heap.size + 1 + 1 + 1) 3 (by decide) (by omega) (by omega) K3.out⟩
  have hk5 := (show Blk _ _ _ _ from K5.out)
  have hL : rpStp.sl w0 (fun k => w.heap.size ≤ k ∧ k < w0.heap.size) (some ⟨w.heap.size + 1 + 1 + 1 + 1 + 1, 0, none⟩) 2 2 exL := by
    refine ⟨_, _, rfl, by decide, by decide, fun _ => ⟨_, 0, rfl, ⟨by omega, by omega⟩, fun i x hx => ?_⟩⟩
    have e3 : rpStp.size = 3 := by kernel_rfl
    rw [e3]
    match i, hx with
    | 0, hx =>
      cases hx
      refine ⟨[.int .u64 ((0 : Nat) : Int), .int .u64 ((4 : Nat) : Int), .slice (some ⟨w.heap.size + 1 + 1, 0, none⟩) 2 2], ⟨[_], _, rfl, u64_ok _ _ 0 (by decide), [_], _, rfl, u64_ok _ _ 4 (by decide), hA⟩, fun j u hu => ?_⟩
      match j, hu with
      | 0, hu => cases hu; exact hk5.cell 0
      | 1, hu => cases hu; exact hk5.cell 1
      | 2, hu => cases hu; exact hk5.cell 2
    | 1, hx =>
      cases hx
      refine ⟨[.int .u64 ((4 : Nat) : Int), .int .u64 ((4611686018427387904 : Nat) : Int), .slice (some ⟨w.heap.size + 1 + 1 + 1 + 1, 0, none⟩) 1 1], ⟨[_], _, rfl, u64_ok _ _ 4 (by decide), [_], _, rfl, u64_ok _ _ 4611686018427387904 (by decide), hB⟩, fun j u hu => ?_⟩
      match j, hu with
      | 0, hu => cases hu; exact hk5.cell 3
      | 1, hu => cases hu; exact hk5.cell 4
      | 2, hu => cases hu; exact hk5.cell 5
  have hat := at_ok (e := 1) 3 hL (fun k hk => hk.2) (by decide) (by decide) pOk_ex (by show (3 : Nat) < 4611686018427387904; decide)
  have HAT := Lib.hid hat
  have hz0 := HB.out.size
  clear hone hA hB hL hat hz hk5
  refine HAT.out.mono ?_; rintro en w1 ⟨r, K, N, nd, A2, n2, c2, D2, rfl, hpl, hs2, hd2, hb1⟩
  obtain ⟨rfl, rfl, rfl, rfl⟩ := place_ex hpl
  have HS2 := Lib.hid hs2
  have HD2 := Lib.hid hd2
  have HB1 := Lib.hid hb1
  have hn2 := (Rp.sl_len hs2).1
  have hbx : Hid (∀ (cs : Array Value), Below w1.heap.size w1 ((w1.alloc (.cells cs 48)).alloc (.cells #[.int .u64 2] 22))) := fun cs => ((Below.refl _ w1).alloc (Nat.le_refl _) _).alloc (by simp) _
  have hkx : Hid (∀ (cs : Array Value), Blk ((w1.alloc (.cells cs 48)).alloc (.cells #[.int .u64 2] 22)) (w1.heap.size + 1) 22 #[.int .u64 2]) := fun cs => Blk.newAt (size_alloc _ _) _ _
  have hz1 := hb1.size
  clear hs2 hd2 hb1 hpl hn2
  go_wp2_with fail
  have hsm := same05_any (Rp.sl_below HS2.out (hbx.out #[.int .i64 0, .int .i64 1, .int .u64 1, .slice A2 n2 c2]) (fun k hk => (HD2.out k hk).2)) (Rp.sl_block (r := rpU64) (l := [2]) (D := fun k => k = w1.heap.size + 1) rfl (hkx.out #[.int .i64 0, .int .i64 1, .int .u64 1, .slice A2 n2 c2]) rfl rfl (by decide) (fun i y hy => by
      match i, hy with
      | 0, hy => cases hy; exact ⟨_, rfl, u64_ok _ _ 2 (by decide)⟩)) (fun k hk => by have := (HD2.out k hk).2; simp; omega) (fun k hk => by rw [show k = _ from hk]; simp)
  rw [dec_true rfl] at hsm
  have HSM := Lib.hid hsm
  clear hsm
  refine HSM.out.mono ?_; rintro en w2 ⟨rfl, hb2⟩
  go_wp2_with fail
  go_ret
  have h1 := (hbx.out #[.int .i64 0, .int .i64 1, .int .u64 1, .slice A2 n2 c2])
  exact ⟨rfl, HB.out.trans ((HB1.out.trans ((h1.trans (hb2.mono h1.size)).mono hz1)).mono hz0)⟩
end Go.Proofs.Ytmdgmnaaopineaa
/- A position is in one stripe alone; what a place that there is not means. No walk. -/
namespace Go.Proofs.Ytmdgmnaaopineaa
set_option linter.unusedVariables false
theorem stripe_le {e : Nat} {l : List Stp} (h : POk (e, l)) : ∀ (j i : Nat) (s t : Stp), l[i]? = some s → l[j]? = some t → i < j → s.2.1 ≤ t.1 := by
  intro j
  induction j with
  | zero => intro i s t _ _ hij; omega
  | succ j ih =>
    intro i s t hs ht hij
    have hj : j < l.length := by have := (List.getElem?_eq_some_iff.1 ht).1; omega
    have hu : l[j]? = some l[j] := List.getElem?_eq_getElem hj
    have h1 := (h.1.2 (j + 1) t (List.getElem?_eq_some_iff.1 ht).1 ht).2
    rw [startOf_succ hu] at h1
    have h2 : l[j].1 < l[j].2.1 := (h.1.2 j l[j] hj hu).1.1
    rcases Nat.lt_or_ge i j with hlt | hge
    · have := ih i s l[j] hs hu hlt
      omega
    · obtain rfl : i = j := by omega
      rw [hu] at hs
      injection hs with hs
      rw [← hs]; omega
theorem inStripe_unique {e : Nat} {l : List Stp} {x r q : Nat} {s t : Stp} (h : POk (e, l)) (h1 : InStripe l x r s) (h2 : InStripe l x q t) : r = q ∧ s = t := by
  obtain ⟨a1, a2, a3⟩ := h1
  obtain ⟨b1, b2, b3⟩ := h2
  have hrq : r = q := by
    rcases Nat.lt_trichotomy r q with hlt | heq | hgt
    · have := stripe_le h q r s t a1 b1 hlt; omega
    · exact heq
    · have := stripe_le h r q t s b1 a1 hgt; omega
  subst hrq
  rw [a1] at b1
  injection b1 with b1
  exact ⟨rfl, b1⟩
/-- The place of the position that is at a place. -/
theorem place_back {e : Nat} {l : List Stp} {r K N loc : Nat} {q : Nat} {set : Int} {nd : List Nat} {s : Stp} (h : POk (e, l)) (hs : l[q]? = some s) (hlt : loc < share s set) {P : Nat} (hP : P = (back s set loc).1) (hp : PlaceIs l P r K N nd) : r = q ∧ (K : Int) = set ∧ N = loc := by
  obtain ⟨j, rfl, hj, hbk, hin, hdl⟩ := back_dealt hlt
  rw [hbk] at hP
  dsimp only at hP
  rw [← hP] at hin hdl
  obtain ⟨t, ht, htok, hK, hN, _⟩ := hp
  have hsP : InStripe l P q s := ⟨hs, by omega, hin⟩
  obtain ⟨rfl, rfl⟩ := inStripe_unique h ht hsP
  rw [dealt_in htok (by omega) hin] at hdl
  simp only [Prod.mk.injEq, and_true] at hdl
  exact ⟨rfl, by rw [hK, hdl.1], by rw [hN, hdl.2]⟩
/-- Where there is no such number, it lies behind the stripe's end. -/
theorem back_none {s : Stp} {j loc : Nat} (hok : SOk s) (hj : j < s.2.2.length) (h : (back s (j : Int) loc).2 = false) : s.2.1 - s.1 ≤ loc * s.2.2.length + j := by
  rcases Nat.lt_or_ge (loc * s.2.2.length + j) (s.2.1 - s.1) with hlt | hge
  · rw [back_in hok hj hlt] at h
    simp at h
  · exact hge
end Go.Proofs.Ytmdgmnaaopineaa
/- The reference's Which and Nodes. -/
namespace Go.Proofs.Ytmdgmnaaopineaa
open Go.ChangeShapes Go.WideShapes Go.ChangeAt Go.RowKit
set_option linter.unusedVariables false
theorem start_find (l : List Stp) (x : Nat) : ∀ k, x < startOf l k → ∃ r, r < k ∧ startOf l r ≤ x ∧ x < startOf l (r + 1)
  | 0, h => by simp [startOf] at h
  | k + 1, h => by
    by_cases h2 : x < startOf l k
    · obtain ⟨r, hr, h3, h4⟩ := start_find l x k h2
      exact ⟨r, by omega, h3, h4⟩
    · exact ⟨k, by omega, by omega, h⟩
/-- Each position is in a stripe. -/
theorem inStripe_some {e : Nat} {l : List Stp} {x : Nat} (h : POk (e, l)) (hp : PosOk x) : ∃ r s, InStripe l x r s := by
  have h1 : startOf l l.length = 4611686018427387904 := h.2
  have h2 : x < 4611686018427387904 := hp
  obtain ⟨r, hr, h3, h4⟩ := start_find l x l.length (by omega)
  have hs : l[r]? = some l[r] := List.getElem?_eq_getElem hr
  rw [startOf_succ hs] at h4
  exact ⟨r, l[r], hs, by rw [(h.1.2 r l[r] hr hs).2]; exact h3, h4⟩
section
variable {D : Dom} {A : Option Addr} {n c e : Nat} {l : List Stp} {w : World}
set_option maxRecDepth 100000 in
set_option maxHeartbeats 4000000 in
theorem which_bad (x : Nat) (hs : rpStp.sl w D A n c l) (hD : ∀ k, D k → k < w.heap.size) (he : e ≤ 18446744073709551615) (hx : x ≤ 18446744073709551615) (hno : ¬ (POk (e, l) ∧ PosOk x)) :
    Calls Try.prog 28 #[.agg (prjV e A n c), .int .u64 (x : Int)] w fun en w' => en = .returned (.int .i64 (-1)) ∧ Below w.heap.size w w' := by
  have hb0 : Below w.heap.size w (w.alloc (.cells (prjV e A n c) 25)) := (Below.refl _ _).alloc (Nat.le_refl _) _
  have hr := rpright_any (Rp.sl_below hs hb0 hD) (fun k hk => Nat.lt_of_lt_of_le (hD k hk) hb0.size) he
  have HB0 := Lib.hid hb0
  by_cases hok : POk (e, l)
  · rw [dec_true hok] at hr
    have HR := Lib.hid hr
    have hp := fun w => repos_any x w hx
    rw [dec_false (fun h => hno ⟨hok, h⟩)] at hp
    have HPS := Lib.hid hp
    clear hr hp hs hD hb0 hok hno
    go_enter Try.func28, Try.ntmps28
    go_wp2_with fail
    refine HR.out.mono ?_; rintro en w1 ⟨rfl, hb1⟩
    have HB1 := Lib.hid hb1
    clear hb1
    go_wp2_with fail
    refine (HPS.out _).mono ?_; rintro en w2 ⟨rfl, rfl⟩
    go_wp2_with fail
    go_ret
    exact ⟨rfl, HB0.out.trans (HB1.out.mono HB0.out.size)⟩
  · rw [dec_false hok] at hr
    have HR := Lib.hid hr
    clear hr hs hD hb0 hok hno
    go_enter Try.func28, Try.ntmps28
    go_wp2_with fail
    refine HR.out.mono ?_; rintro en w1 ⟨rfl, hb1⟩
    have HB1 := Lib.hid hb1
    clear hb1
    go_wp2_with fail
    go_ret
    exact ⟨rfl, HB0.out.trans (HB1.out.mono HB0.out.size)⟩
set_option maxRecDepth 100000 in
set_option maxHeartbeats 4000000 in
theorem which_ok {r : Nat} {s : Stp} (x : Nat) (hs : rpStp.sl w D A n c l) (hD : ∀ k, D k → k < w.heap.size) (he : e ≤ 18446744073709551615) (hx : x ≤ 18446744073709551615) (hok : POk (e, l)) (hpos : PosOk x) (hin : InStripe l x r s) :
    Calls Try.prog 28 #[.agg (prjV e A n c), .int .u64 (x : Int)] w fun en w' => en = .returned (.int .i64 (r : Int)) ∧ Below w.heap.size w w' := by
  obtain ⟨hlen, hnc, hcm⟩ := Rp.sl_len hs
  unfold maxLen at hcm
  have hb0 : Below w.heap.size w (w.alloc (.cells (prjV e A n c) 25)) := (Below.refl _ _).alloc (Nat.le_refl _) _
  have hr := rpright_any (Rp.sl_below hs hb0 hD) (fun k hk => Nat.lt_of_lt_of_le (hD k hk) hb0.size) he
  rw [dec_true hok] at hr
  have hp := fun w => repos_any x w hx
  rw [dec_true hpos] at hp
  have hrn : r < n := by rw [← hlen]; exact (List.getElem?_eq_some_iff.1 hin.1).1
  have hn64 : n ≤ 64 := by rw [← hlen]; exact hok.1.1.2.2
  have HB0 := Lib.hid hb0
  have HK0 : Hid (Blk (w.alloc (.cells (prjV e A n c) 25)) w.heap.size 25 (prjV e A n c)) := Blk.newAt rfl _ _
  have HR := Lib.hid hr
  have HPS := Lib.hid hp
  have HS := Lib.hid hs
  have HD := Lib.hid hD
  have HOK := Lib.hid hok
  have HIN := Lib.hid hin
  clear hr hp hs hD hb0 hok hpos hin hlen
  go_enter Try.func28, Try.ntmps28
  go_wp2_with fail
  generalize World.alloc w _ = w0 at *
  have hl0 := (show Blk _ _ _ _ from HK0.out).lt
  have hz0 := HB0.out.size
  refine HR.out.mono ?_; rintro en w1 ⟨rfl, hb1⟩
  have HB1 := Lib.hid hb1
  clear hb1
  go_wp2_with fail
  refine (HPS.out _).mono ?_; rintro en w2 ⟨rfl, rfl⟩
  go_wp2_with fail
  go_loopw [5] (fun ii wr => ∃ k : Nat, k ≤ r ∧ ii = .int .i64 (k : Int) ∧ Hid (Below w0.heap.size w0 wr)) (fun ii _ => r + 1 - (intOf ii).toNat)
  case atStart => exact ⟨0, by omega, rfl, HB1.out⟩
  case round =>
    obtain ⟨k, hk, rfl, hbw⟩ := hrel
    have hkn : k < n := by omega
    have hbz := HB0.out.trans (hbw.out.mono hz0)
    obtain ⟨b, off, t, A2, c2, rfl, hb, hsk, g0, g1, g2, hrow, hs1, hs2⟩ := stps_at (Rp.sl_below HS.out hbz HD.out) hkn
    have e1 : wr.cell? ⟨w.heap.size, 1, none⟩ = some (.slice (some ⟨b, off, none⟩) n c) := (Blk.below (show Blk _ _ _ _ from HK0.out) hbw.out hl0).cell 1
    obtain ⟨f, hf⟩ : ∃ f, f = t.1 := ⟨_, rfl⟩
    obtain ⟨u, hu⟩ : ∃ u, u = t.2.1 := ⟨_, rfl⟩
    rw [← hf] at g0 hs1
    rw [← hu] at g1 hs2
    have hin := HIN.out
    have hd0 : decide ((k : Int) < (n : Int)) = true := by simp; omega
    have hk0 : (0 : Int) ≤ (k : Int) := by omega
    have hk1 : (k : Int) < (n : Int) := by omega
    have HBZ := Lib.hid hbz
    by_cases hkr : k < r
    · have hle := stripe_le HOK.out r k t s hsk hin.1 hkr
      have hto := ((HOK.out.1.2 k t (List.getElem?_eq_some_iff.1 hsk).1 hsk).1).1
      have hin2 := hin.2.1
      have q1 : decide (f ≤ x) = true := by simp; omega
      have q2 : decide (x < u) = false := by simp; omega
      clear hf hu hsk hrow hin hle hto hin2 hbz g2
      go_wp2_with fail
      go_roundw
      case rel => exact ⟨k + 1, by omega, by go_num, hbw.out⟩
      case measure => simp [intOf]; omega
    · obtain rfl : k = r := by omega
      obtain rfl : t = s := by have h1 := hin.1; rw [hsk] at h1; injection h1
      have q1 : decide (f ≤ x) = true := by have := hin.2.1; simp; omega
      have q2 : decide (x < u) = true := by have := hin.2.2; simp; omega
      clear hf hu hsk hrow hin hbz g2
      go_wp2_with fail
      go_ret
      exact ⟨rfl, HBZ.out⟩
set_option maxRecDepth 100000 in
set_option maxHeartbeats 4000000 in
/-- The reference's Nodes of a position: the slice that the projection holds. -/
theorem rnodes_ok {r : Nat} {s : Stp} (x : Nat) (hs : rpStp.sl w D A n c l) (hD : ∀ k, D k → k < w.heap.size) (he : e ≤ 18446744073709551615) (hx : x ≤ 18446744073709551615) (hok : POk (e, l)) (hpos : PosOk x) (hin : InStripe l x r s) :
    ∃ (nd : List Nat) (A' : Option Addr) (c' : Nat), s.2.2[(x - s.1) % s.2.2.length]? = some nd ∧ rpU64.sl w D A' nd.length c' nd ∧ ∀ y, Below w.heap.size w y →
      Calls Try.prog 32 #[.agg (prjV e A n c), .int .u64 (x : Int)] y fun en w' => en = .returned (.slice A' nd.length c') ∧ Below y.heap.size y w' := by
  obtain ⟨hlen, hnc, hcm⟩ := Rp.sl_len hs
  unfold maxLen at hcm
  have hrn : r < n := by rw [← hlen]; exact (List.getElem?_eq_some_iff.1 hin.1).1
  have hso : SOk s := (hok.1.2 r s (List.getElem?_eq_some_iff.1 hin.1).1 hin.1).1
  obtain ⟨b, off, t, A2, c2, rfl, hb, hsk, g0, g1, g2, hrow, hs1, hs2⟩ := stps_at hs hrn
  obtain rfl : t = s := by have h1 := hin.1; rw [hsk] at h1; injection h1
  have hm1 : 1 ≤ t.2.2.length := hso.2.2.1
  have hm8 : t.2.2.length ≤ 8 := hso.2.2.2.1
  have hKm : (x - t.1) % t.2.2.length < t.2.2.length := Nat.mod_lt _ (by omega)
  obtain ⟨K, hK⟩ : ∃ K, K = (x - t.1) % t.2.2.length := ⟨_, rfl⟩
  rw [← hK] at hKm ⊢
  obtain ⟨b2, off2, nd, A3, c3, rfl, hb2, hnd, hc3, hs3⟩ := rows_at hrow hKm
  refine ⟨nd, A3, c3, hnd, hs3, fun y hy => ?_⟩
  obtain ⟨m, hm⟩ : ∃ m, m = t.2.2.length := ⟨_, rfl⟩
  obtain ⟨f, hf⟩ : ∃ f, f = t.1 := ⟨_, rfl⟩
  obtain ⟨u, hu⟩ : ∃ u, u = t.2.1 := ⟨_, rfl⟩
  obtain ⟨nl, hnl⟩ : ∃ nl, nl = nd.length := ⟨_, rfl⟩
  have hfx := hin.2.1
  rw [← hm] at g2 hK hKm hm1 hm8
  rw [← hf] at g0 hs1 hK hfx
  rw [← hu] at g1 hs2
  rw [← hnl] at hc3
  rw [← hnl]
  have hKe : ((x : Int) - (f : Int)) % (m : Int) = (K : Int) := by rw [hK, Int.natCast_emod, Int.natCast_sub hfx]
  have hb0 : Below y.heap.size y (y.alloc (.cells (prjV e (some ⟨b, off, none⟩) n c) 25)) := (Below.refl _ _).alloc (Nat.le_refl _) _
  have hwy := hy.trans (hb0.mono hy.size)
  have HWH := Lib.hid (which_ok (e := e) x (Rp.sl_below hs hwy hD) (fun k hk => Nat.lt_of_lt_of_le (hD k hk) hwy.size) he hx hok hpos hin)
  have hbz := hD b hb
  have hb2z := hD b2 hb2
  have HG0 := Lib.hid g0
  have HG1 := Lib.hid g1
  have HG2 := Lib.hid g2
  have HC3 := Lib.hid hc3
  have HY := Lib.hid hwy
  have HB0 := Lib.hid hb0
  have HK0 : Hid (Blk (y.alloc (.cells (prjV e (some ⟨b, off, none⟩) n c) 25)) y.heap.size 25 (prjV e (some ⟨b, off, none⟩) n c)) := Blk.newAt rfl _ _
  have hrI0 : (0 : Int) ≤ (r : Int) := by omega
  have hrI1 : (r : Int) < (n : Int) := by omega
  have hKI0 : (0 : Int) ≤ (K : Int) := by omega
  have hKI1 : (K : Int) < (m : Int) := by omega
  have hfx2 : (f : Int) ≤ (x : Int) := by omega
  have hx2 : (x : Int) ≤ 18446744073709551615 := by omega
  have HKE := Lib.hid hKe
  have H : Hid ((Try.prog.info? 31).map (·.size) = some 3) := by unfold Hid; kernel_rfl
  clear hs hD hok hpos hin hlen g0 g1 g2 hc3 hwy hb0 hK hm hf hu hnl hsk hrow hso hs3 hnd hKe hy
  go_enter Try.func32, Try.ntmps32
  go_wp2_with fail
  generalize World.alloc y _ = w0 at *
  have hl0 := (show Blk _ _ _ _ from HK0.out).lt
  refine HWH.out.mono ?_; rintro en w1 ⟨rfl, hb1⟩
  have hw1 := HY.out.trans (hb1.mono HY.out.size)
  have e1 : w1.cell? ⟨y.heap.size, 1, none⟩ = some (.slice (some ⟨b, off, none⟩) n c) := (Blk.below (show Blk _ _ _ _ from HK0.out) hb1 hl0).cell 1
  have p0 := (hw1.cell (p := ⟨b, off + r * 3, none⟩) hbz).trans HG0.out
  have p1 := (hw1.cell (p := ⟨b, off + r * 3 + 1, none⟩) hbz).trans HG1.out
  have p2 := (hw1.cell (p := ⟨b, off + r * 3 + 2, none⟩) hbz).trans HG2.out
  have HB1 := Lib.hid hb1
  have HW1 := Lib.hid hw1
  clear hb1 hw1
  go_wp2_with fail
  have hb2' : Below w1.heap.size w1 (w1.alloc (.cells #[.int .u64 (f : Int), .int .u64 (u : Int), .slice (some ⟨b2, off2, none⟩) m c2] 31)) := (Below.refl _ _).alloc (Nat.le_refl _) _
  have hk := Blk.new w1 31 #[.int .u64 (f : Int), .int .u64 (u : Int), .slice (some ⟨b2, off2, none⟩) m c2]
  generalize (w1.alloc (.cells #[.int .u64 (f : Int), .int .u64 (u : Int), .slice (some ⟨b2, off2, none⟩) m c2] 31)) = w2 at *
  have HB2 := Lib.hid (HB1.out.trans (hb2'.mono HB1.out.size))
  have q0 : w2.cell? ⟨w1.heap.size, 0, none⟩ = some (.int .u64 (f : Int)) := hk.cell 0
  have q2 : w2.cell? ⟨w1.heap.size, 2, none⟩ = some (.slice (some ⟨b2, off2, none⟩) m c2) := hk.cell 2
  have q3 : w2.cell? ⟨b2, off2 + K, none⟩ = some (.slice A3 nl c3) := (hb2'.cell (p := ⟨b2, off2 + K, none⟩) (Nat.lt_of_lt_of_le hb2z HW1.out.size)).trans ((HW1.out.cell (p := ⟨b2, off2 + K, none⟩) hb2z).trans HC3.out)
  obtain ⟨d, hd⟩ : ∃ d : Nat, d = x - f := ⟨_, rfl⟩
  have hs1 : IntKind.u64.wrap ((x : Int) - (f : Int)) = (d : Int) := by rw [IntWalk.u64_in _ (by omega)]; omega
  have hs2 : IntKind.u64.wrap (m : Int) = (m : Int) := by rw [IntWalk.u64_in _ (by omega)]
  have hs3 : (d : Int).tmod (m : Int) = (K : Int) := by
    rw [Int.tmod_eq_emod_of_nonneg (by omega), ← HKE.out]
    congr 1; omega
  have hs4 : IntKind.u64.wrap (K : Int) = (K : Int) := by rw [IntWalk.u64_in _ (by omega)]
  have hm0 : ((m : Int) == 0) = false := by simp; omega
  have hm01 : (m : Int) ≠ 0 := by omega
  have hm02 : m ≠ 0 := by omega
  clear hb2' hk e1 p0 p1 p2 hd
  go_quiet (fail)
  clear hs1 hs2 hs3 hs4 q0 q2 q3
  go_wp2_with fail
  go_ret
  have hdn : Below w0.heap.size w2 (w2.drewN nq) := ⟨rfl, rfl, rfl, Nat.le_refl _, fun _ _ => rfl⟩
  exact ⟨rfl, HB0.out.trans ((HB2.out.trans hdn).mono HB0.out.size)⟩
end
end Go.Proofs.Ytmdgmnaaopineaa
/- On which nodes a position is; the first position on other nodes. No walk. -/
namespace Go.Proofs.Ytmdgmnaaopineaa
set_option linter.unusedVariables false
/-- The nodes of a position. -/
def nodesAt : List Stp → Nat → List Nat
  | [], _ => []
  | s :: l, x => if s.1 ≤ x ∧ x < s.2.1 then s.2.2.getD ((x - s.1) % s.2.2.length) [] else nodesAt l x
theorem nodesAt_go : ∀ (l : List Stp) (x r : Nat) (s : Stp), InStripe l x r s → (∀ q t, InStripe l x q t → q = r) → nodesAt l x = s.2.2.getD ((x - s.1) % s.2.2.length) []
  | [], x, r, s, h, _ => by have := h.1; simp at this
  | u :: l, x, r, s, h, hu => by
    unfold nodesAt
    by_cases hx : u.1 ≤ x ∧ x < u.2.1
    · rw [if_pos hx]
      obtain rfl : 0 = r := hu 0 u ⟨rfl, hx.1, hx.2⟩
      have := h.1
      simp only [List.getElem?_cons_zero, Option.some.injEq] at this
      rw [this]
    · rw [if_neg hx]
      cases r with
      | zero =>
        have := h.1
        simp only [List.getElem?_cons_zero, Option.some.injEq] at this
        subst this
        exact absurd h.2 hx
      | succ r =>
        refine nodesAt_go l x r s ⟨by simpa using h.1, h.2⟩ (fun q t ht => ?_)
        have := hu (q + 1) t ⟨by simpa using ht.1, ht.2⟩
        omega
theorem nodesAt_eq {e : Nat} {l : List Stp} {x r : Nat} {s : Stp} (h : POk (e, l)) (hin : InStripe l x r s) : nodesAt l x = s.2.2.getD ((x - s.1) % s.2.2.length) [] :=
  nodesAt_go l x r s hin (fun q t ht => (inStripe_unique h ht hin).1)
theorem nodesAt_some {e : Nat} {l : List Stp} {x r : Nat} {s : Stp} {nd : List Nat} (h : POk (e, l)) (hin : InStripe l x r s) (hnd : s.2.2[(x - s.1) % s.2.2.length]? = some nd) : nodesAt l x = nd := by
  rw [nodesAt_eq h hin, List.getD_eq_getElem?_getD, hnd]; rfl
theorem place_nodes {e : Nat} {l : List Stp} {x r K N : Nat} {nd : List Nat} (h : POk (e, l)) (hp : PlaceIs l x r K N nd) : nodesAt l x = nd := by
  obtain ⟨s, hin, _, hK, _, hnd⟩ := hp
  exact nodesAt_some h hin (by rw [← hK]; exact hnd)
theorem inStripe_to {l : List Stp} {x y r : Nat} {s : Stp} (h : InStripe l x r s) (hxy : x ≤ y) (hy : y < s.2.1) : InStripe l y r s := ⟨h.1, Nat.le_trans h.2.1 hxy, hy⟩
theorem inStripe_ok {e : Nat} {l : List Stp} {x r : Nat} {s : Stp} (h : POk (e, l)) (hin : InStripe l x r s) : SOk s := (h.1.2 r s (List.getElem?_eq_some_iff.1 hin.1).1 hin.1).1
/-- Two stripes deal out as at first after as many positions as the product of their sets. -/
theorem moved_period {ea eb : Nat} {la lb : List Stp} {pos i k E : Nat} {s t : Stp} (ha : POk (ea, la)) (hb : POk (eb, lb)) (hia : InStripe la pos i s) (hib : InStripe lb pos k t) (hE1 : E ≤ s.2.1) (hE2 : E ≤ t.2.1)
    (h : ∀ q, pos ≤ q → q < E → q < pos + s.2.2.length * t.2.2.length → nodesAt la q = nodesAt lb q) : ∀ q, pos ≤ q → q < E → nodesAt la q = nodesAt lb q := by
  intro q h1 h2
  have hs := inStripe_ok ha hia
  have ht := inStripe_ok hb hib
  obtain ⟨m, hm⟩ : ∃ m, m = s.2.2.length := ⟨_, rfl⟩
  obtain ⟨n, hn⟩ : ∃ n, n = t.2.2.length := ⟨_, rfl⟩
  have hm1 : 1 ≤ m := by rw [hm]; exact hs.2.2.1
  have hn1 : 1 ≤ n := by rw [hn]; exact ht.2.2.1
  have hP : 0 < m * n := Nat.mul_pos hm1 hn1
  rw [← hm, ← hn] at h
  obtain ⟨d, hd⟩ : ∃ d, d = (q - pos) / (m * n) := ⟨_, rfl⟩
  obtain ⟨r, hr⟩ : ∃ r, r = (q - pos) % (m * n) := ⟨_, rfl⟩
  have hrl : r < m * n := by rw [hr]; exact Nat.mod_lt _ hP
  have hdr : q - pos = m * n * d + r := by rw [hd, hr]; exact (Nat.div_add_mod _ _).symm
  have hq : q = pos + r + m * n * d := by omega
  have hle : pos + r ≤ q := by omega
  have h0 := h (pos + r) (by omega) (by omega) (by omega)
  have hsf := hia.2.1
  have htf := hib.2.1
  rw [nodesAt_eq ha (inStripe_to hia (by omega) (by omega)), nodesAt_eq hb (inStripe_to hib (by omega) (by omega))] at h0
  rw [nodesAt_eq ha (inStripe_to hia h1 (by omega)), nodesAt_eq hb (inStripe_to hib h1 (by omega))]
  rw [← hm, ← hn] at h0 ⊢
  have e1 : (q - s.1) % m = (pos + r - s.1) % m := by
    rw [show q - s.1 = (pos + r - s.1) + m * (n * d) by rw [hq, ← Nat.mul_assoc]; omega, Nat.add_mul_mod_self_left]
  have e2 : (q - t.1) % n = (pos + r - t.1) % n := by
    rw [show q - t.1 = (pos + r - t.1) + n * (m * d) by rw [hq, ← Nat.mul_assoc, Nat.mul_comm n m]; omega, Nat.add_mul_mod_self_left]
  rw [e1, e2]
  exact h0
/-- What First tells of two well-formed projections. -/
def FirstIs (la lb : List Stp) (r : Nat) (ok : Bool) : Prop :=
  (ok = true ∧ r < 4611686018427387904 ∧ nodesAt la r ≠ nodesAt lb r ∧ ∀ q, q < r → nodesAt la q = nodesAt lb q) ∨ (ok = false ∧ r = 0 ∧ ∀ q, q < 4611686018427387904 → nodesAt la q = nodesAt lb q)
end Go.Proofs.Ytmdgmnaaopineaa
/- ref20.copied and ref20.ends. -/
namespace Go.Proofs.Ytmdgmnaaopineaa
open Go.ChangeShapes Go.WideShapes Go.ChangeAt Go.RowKit
set_option linter.unusedVariables false
theorem LL.mono {w : World} {base base' n c : Nat} {A : Option Addr} {sets : List (List Nat)} (h : LL w base A n c sets) (hb : base' ≤ base) : LL w base' A n c sets := by
  obtain ⟨vals, ho, hn, hi⟩ := h
  refine ⟨vals, own_mono ho hb, hn, fun i x hx => ?_⟩
  obtain ⟨⟨A', c', hv, hw⟩, h64⟩ := hi i x hx
  exact ⟨⟨A', c', hv, own_mono hw hb⟩, h64⟩
section
variable {D : Dom} {A : Option Addr} {n c e e2 : Nat} {l : List Stp} {w : World}
set_option maxRecDepth 100000 in
set_option maxHeartbeats 4000000 in
theorem rcopied_any (hs : rpStp.sl w D A n c l) (hD : ∀ k, D k → k < w.heap.size) (hn : n ≤ 1000) (hl : ∀ s ∈ l, s.2.2.length ≤ 1000 ∧ ∀ (j : Nat) x, s.2.2[j]? = some x → x.length ≤ 1000) (he : e2 = e + 1) (he2 : e2 ≤ 18446744073709551615) :
    Calls Try.prog 88 #[.agg (prjV e A n c)] w fun en w' => ∃ A2 c2, en = .returned (.agg (prjV e2 A2 n c2)) ∧ OS w' w.heap.size A2 n c2 l ∧ Below w.heap.size w w' := by
  have H : Hid ((Try.prog.info? 25).map (·.size) = some 2) := by unfold Hid; kernel_rfl
  have hlen := (Rp.sl_len hs).1
  have HZ := Lib.hid (below3 w (.cells (prjV e A n c) 25) (.cells (prjV 0 none 0 0) 25) (.cells (prjV e2 none 0 0) 25))
  have HK := Lib.hid ((blk21 w 25 25 (prjV e A n c) (prjV 0 none 0 0)).alloc (.cells (prjV e2 none 0 0) 25))
  have HR := Lib.hid ((blk22 w 25 25 (prjV e A n c) (prjV 0 none 0 0)).alloc (.cells (prjV e2 none 0 0) 25))
  have HO : Hid (Blk (((w.alloc (.cells (prjV e A n c) 25)).alloc (.cells (prjV 0 none 0 0) 25)).alloc (.cells (prjV e2 none 0 0) 25)) (w.heap.size + 1 + 1) 25 (prjV e2 none 0 0)) := Blk.newAt (by rw [size_alloc, size_alloc]) _ _
  have HS := Lib.hid (show Sl rpStp w D A n c l from ⟨hs, hD⟩)
  have HN := Lib.hid hlen
  have HLE := Lib.hid hl
  have s0 : IntKind.u64.wrap ((e : Int) + 1) = (e2 : Int) := by rw [IntWalk.u64_in _ (by omega)]; omega
  clear hs hD hlen hl he
  go_enter Try.func88, Try.ntmps88
  go_wp2_with fail
  generalize World.alloc (World.alloc (World.alloc w _) _) _ = w0 at *
  go_loopw [4] (fun i wr => ∃ (k : Nat) (As : Option Addr) (cs : Nat), k ≤ n ∧ i = .int .i64 k ∧ Hid (OS wr w.heap.size As k cs (l.take k)) ∧ Hid (Blk wr w.heap.size 25 (prjV e A n c)) ∧ Hid (Blk wr (w.heap.size + 1) 25 (prjV 0 none 0 0)) ∧ Hid (Blk wr (w.heap.size + 1 + 1) 25 (prjV e2 As k cs)) ∧ Hid (Below w.heap.size w wr)) (fun i _ => n - (intOf i).toNat)
  case atStart => exact ⟨0, none, 0, by omega, rfl, OL.nil _ _ _ _ _ _, HK.out, HR.out, HO.out, HZ.out⟩
  case round =>
    clear HK HR HZ HO
    obtain ⟨k, As, cs, hk, rfl, hll, hkb, hkr, hko, hbel⟩ := hrel
    obtain ⟨wo, hwo⟩ : ∃ wo, wo = wr := ⟨_, rfl⟩
    subst hwo
    have hzr := hbel.out.size
    have hlto := (show Blk wo (w.heap.size + 1 + 1) 25 _ from hko.out).lt
    by_cases hkn : k < n
    case neg =>
      obtain rfl : k = n := by omega
      have hd : decide ((k : Int) < (k : Int)) = false := by simp
      have k1 := (show Blk wo w.heap.size 25 _ from hkb.out).cell 1
      have o0 := (show Blk wo (w.heap.size + 1 + 1) 25 _ from hko.out).cell 0
      have o1 := (show Blk wo (w.heap.size + 1 + 1) 25 _ from hko.out).cell 1
      have HE : Hid (l.take k = l) := List.take_of_length_le (by rw [HN.out]; exact Nat.le_refl _)
      go_wp2_with (refine wpList_put_row rfl 25 (.tmp 2) (.tmp 66) rfl (w.heap.size + 1) (prjV e2 As k cs) rfl rfl 25 _ (show Blk _ _ _ _ from hkr.out) H.out rfl (by simp [Value.oneCell']) ?_; intro w9 hblk hgr)
      have hl9 := (show OS wo w.heap.size As k cs (l.take k) from hll.out).grown (show Blk _ _ _ _ from hkr.out) id tss_prj (by decide) hgr
      rw [HE.out] at hl9
      exact bodyPost_ret (results_cell_row rfl _ _ (w.heap.size + 1) 25 _ (0, 0) _ rfl hblk Try.underlying25 rfl H.out) rfl ⟨As, cs, rfl, hl9, hbel.out.grown hgr hbel.out.size (fun j hj => by injection hj with hj; omega)⟩
    case pos =>
      have hd : decide ((k : Int) < (n : Int)) = true := by simp; omega
      have hkI : (0 : Int) ≤ (k : Int) := by omega
      have hkI2 : (k : Int) < (n : Int) := by omega
      have hsr := keepS HS.out hbel.out
      obtain ⟨bo, off, s, A3, c3, rfl, hbD, hx, g0, g1, g2, hrow, hs1, hs2⟩ := stps_at hsr.1 hkn
      have hbo := hsr.2 _ hbD
      obtain ⟨sf, hsf⟩ : ∃ sf, sf = s.1 := ⟨_, rfl⟩
      obtain ⟨st, hst⟩ : ∃ st, st = s.2.1 := ⟨_, rfl⟩
      obtain ⟨ss, hss⟩ : ∃ ss, ss = s.2.2 := ⟨_, rfl⟩
      have es : s = (sf, st, ss) := by rw [hsf, hst, hss]
      rw [← hsf] at g0 hs1
      rw [← hst] at g1 hs2
      rw [← hss] at g2 hrow
      subst es
      obtain ⟨sn, hsn⟩ : ∃ sn, sn = ss.length := ⟨_, rfl⟩
      rw [← hsn] at g2 hrow
      have HSN := Lib.hid hsn
      have hle := HLE.out _ (List.mem_of_getElem? hx)
      have hsn1 : sn ≤ 1000 := by rw [hsn]; exact hle.1
      have HLS := Lib.hid hle.2
      have HRW := Lib.hid (show Sl (rpSlice rpU64) wo _ A3 sn c3 ss from ⟨hrow, hsr.2⟩)
      have HTK : Hid (l.take (k + 1) = l.take k ++ [(sf, st, ss)]) := by
        show l.take (k + 1) = l.take k ++ [(sf, st, ss)]
        rw [List.take_add_one, hx]; rfl
      have hk16 : k + 1 ≤ maxLen := by unfold maxLen; omega
      have k1 := (show Blk wo w.heap.size 25 _ from hkb.out).cell 1
      have G2 := Lib.hid g2
      clear hx hle hrow hsr hsf hst hss hsn
      go_wp2_with fail
      go_region_held3 (fun w' => w'.cell? ⟨w.heap.size, 1, none⟩ = some (.slice (some ⟨bo, off, none⟩) n c) ∧ w'.cell? ⟨bo, off + k * 3, none⟩ = some (.int .u64 (sf : Int)) ∧ w'.cell? ⟨bo, off + k * 3 + 1, none⟩ = some (.int .u64 (st : Int)) ∧ w'.cell? ⟨bo, off + k * 3 + 2, none⟩ = some (.slice A3 sn c3)) (go_keep) (fail)
      go_wp2_with fail
      have HG1 : Hid (Blk (wo.alloc (.cells (stpV sf st none 0 0) 31)).drew wo.heap.size 31 (stpV sf st none 0 0)) := blk11 _ _ _
      have HB1 : Hid (Below wo.heap.size wo (wo.alloc (.cells (stpV sf st none 0 0) 31)).drew) := (below1 wo _).drew
      generalize World.drew (World.alloc wo _) = w1 at *
      clear g0 g1 g2 k1
      go_loopw [6] (fun i wr => ∃ (j : Nat) (Ai : Option Addr) (ci : Nat), j ≤ sn ∧ i = .int .i64 j ∧ Hid (Blk wr wo.heap.size 31 (stpV sf st Ai j ci)) ∧ Hid (LL wr wo.heap.size Ai j ci (ss.take j)) ∧ Hid (Below wo.heap.size wo wr)) (fun i _ => sn - (intOf i).toNat)
      case atStart => exact ⟨0, none, 0, by omega, rfl, HG1.out, LL.nil _ _, HB1.out⟩
      case round =>
        clear HG1 HB1
        obtain ⟨j, Ai, ci, hj, rfl, hsb, hli, hbi⟩ := hrel
        have hzi := hbi.out.size
        have hlts := (show Blk wr wo.heap.size 31 _ from hsb.out).lt
        have hkbi := keepB (show Blk wo w.heap.size 25 _ from hkb.out) hbi.out
        have k1 := hkbi.cell 1
        have g2 := (hbi.out.cell (p := ⟨bo, off + k * 3 + 2, none⟩) hbo).trans G2.out
        by_cases hjn : j < sn
        case neg =>
          obtain rfl : j = sn := by omega
          have hdj : decide ((j : Int) < (j : Int)) = false := by simp
          have HTS : Hid (ss.take j = ss) := List.take_of_length_le (by rw [HSN.out]; exact Nat.le_refl _)
          have hkoi := keepB (show Blk wo (w.heap.size + 1 + 1) 25 _ from hko.out) hbi.out
          have o1 := hkoi.cell 1
          have v0 := (show Blk wr wo.heap.size 31 _ from hsb.out).cell 0
          have v1 := (show Blk wr wo.heap.size 31 _ from hsb.out).cell 1
          have v2 := (show Blk wr wo.heap.size 31 _ from hsb.out).cell 2
          have hba := below1 wr (.cells (stpV sf st Ai j ci) 31)
          have hbw := stepB hbi.out hba
          have HBW := Lib.hid hbw
          obtain ⟨vals, hov, hln, hvi⟩ := (show OS wo w.heap.size As k cs (l.take k) from hll.out).below hbw
          have HOV := Lib.hid hov
          have HVI := Lib.hid hvi
          have HLN := Lib.hid hln
          have hlit := (show LL wr wo.heap.size Ai j ci (ss.take j) from hli.out).below hba
          rw [HTS.out] at hlit
          have HX5 := Lib.hid (stp_ok hs1 hs2 (LL.tb (D0 := fun _ => False) hlit))
          have HSR := Lib.hid (Src.blk (size := rpStp.size) (blk11 wr 31 (stpV sf st Ai j ci)) (by kernel_rfl) (by simp [Value.oneCell']))
          have HKO7 := Lib.hid (keepB hkoi hba)
          clear hba hbw hov hvi hln hlit hkoi hkbi
          go_wp2_with (at_builtin; refine wpList_app rfl (.tmp 61) (.tmp 63) _ rfl elemStp rfl HOV.out rfl HSR.out hk16 (by omega) (by simp; omega) ?_; intro A6 c6 w6 ho6 hg6 hat6
                       have HO6 := Lib.hid ho6
                       have HG6 := Lib.hid hg6
                       have hko6 := (show Blk (wr.alloc (.cells (stpV sf st Ai j ci) 31)) (w.heap.size + 1 + 1) 25 _ from HKO7.out).grown hg6 (Pen.ne (show Blk _ _ _ _ from HKO7.out) HOV.out (by decide))
                       have HKO6 := Lib.hid hko6
                       have q1 := hko6.cell 1
                       have q1f := hko6.frozen 1
                       clear ho6 hg6 hat6 hko6)
          have hll6 := (show OS (wr.alloc (.cells (stpV sf st Ai j ci) 31)) w.heap.size As k cs (l.take k) from ⟨vals, HOV.out, HLN.out, HVI.out⟩).push HOV.out HVI.out tss_stp (fun _ h => h.elim) HO6.out HG6.out HX5.out
          have hll7 := hll6.put (show Blk w6 (w.heap.size + 1 + 1) 25 _ from HKO6.out) id tss_prj (by decide) (a := ⟨w.heap.size + 1 + 1, 1, none⟩) rfl (.slice A6 (k + 1) c6)
          have hkb6 := (keepB (show Blk wo w.heap.size 25 _ from hkb.out) HBW.out).grown HG6.out (Pen.ne (keepB (show Blk wo w.heap.size 25 _ from hkb.out) HBW.out) HOV.out (by decide))
          have hkr6 := (keepB (show Blk wo (w.heap.size + 1) 25 _ from hkr.out) HBW.out).grown HG6.out (Pen.ne (keepB (show Blk wo (w.heap.size + 1) 25 _ from hkr.out) HBW.out) HOV.out (by decide))
          have hb6 := (stepB hbel.out HBW.out).grown HG6.out (stepB hbel.out HBW.out).size (fun j hj => (HOV.out.lt j hj).1)
          go_roundw
          case rel => exact ⟨k + 1, A6, c6, by omega, by go_num, by rw [HTK.out]; exact hll7, hkb6.far (by dsimp only; omega) _, hkr6.far (by dsimp only; omega) _, (show Blk w6 (w.heap.size + 1 + 1) 25 _ from HKO6.out).put 1 _, hb6.setCell (by dsimp only; omega) _⟩
          case measure => simp [intOf]; omega
        case pos =>
          have hdj : decide ((j : Int) < (sn : Int)) = true := by simp; omega
          have hjI : (0 : Int) ≤ (j : Int) := by omega
          have hjI2 : (j : Int) < (sn : Int) := by omega
          have hsr := keepS HRW.out hbi.out
          obtain ⟨b2, off2, x, A4, c4, rfl, hbD2, hx, hcell, hrow⟩ := rows_at hsr.1 hjn
          have hx1 := HLS.out j x hx
          obtain ⟨xn, hxn⟩ : ∃ xn, xn = x.length := ⟨_, rfl⟩
          rw [← hxn] at hcell hrow hx1
          have HXN := Lib.hid hxn
          have HSR := Lib.hid (Src.u64 hrow)
          have HLT := Lib.hid (u64_lt hrow)
          have HTS : Hid (ss.take (j + 1) = ss.take j ++ [x]) := by
            show ss.take (j + 1) = ss.take j ++ [x]
            rw [List.take_add_one, hx]; rfl
          have hmx : 0 + xn ≤ maxLen := by unfold maxLen; omega
          have hj16 : j + 1 ≤ maxLen := by unfold maxLen; omega
          have HNIL := Lib.hid (World.ownsRow_nil wr wo.heap.size 22 1)
          clear hx hrow hsr hxn hkbi
          go_wp2_with (first
            | (at_builtin; refine wpList_app rfl (.tmp 43) (.tmp 52) _ rfl elem64 rfl HNIL.out rfl HSR.out hmx (by omega) (by omega) ?_; intro A5 c5 w5 ho5 hg5 hat5
               have hb5 : Below wr.heap.size wr w5 := (Below.refl _ _).grown hg5 (Nat.le_refl _) (fun j hj => by cases hj)
               have HB5 := Lib.hid hb5
               have ho5' : w5.ownsRow wo.heap.size 22 1 (.slice A5 xn c5) xn (x.map uv) := by
                 have := ho5
                 rw [List.nil_append] at this
                 simpa using this
               have hb5a := below1 w5 (.cells #[.slice A5 xn c5] 46)
               have hsb5 := keepB (show Blk wr wo.heap.size 31 _ from hsb.out) hb5
               have q2 := hsb5.cell 2
               have HO5 := Lib.hid (keepO ho5' hb5a)
               obtain ⟨vals, hov, hln, hvi⟩ := ((show LL wr wo.heap.size Ai j ci (ss.take j) from hli.out).below hb5).below hb5a
               have HOV := Lib.hid hov
               have HVI := Lib.hid hvi
               have HLN := Lib.hid hln
               have HSB5 := Lib.hid (keepB hsb5 hb5a)
               have hz5 := hb5.size
               clear ho5 hg5 hat5 hb5 ho5' hov hvi hln hb5a hsb5)
            | (at_builtin; refine wpList_app rfl (.tmp 55) (.tmp 57) _ rfl elemSets rfl HOV.out rfl (Src.new w5 (.slice A5 xn c5) _ rfl) hj16 (by omega) (by simp; omega) ?_; intro A6 c6 w6 ho6 hg6 hat6
               have HO6 := Lib.hid ho6
               have HG6 := Lib.hid hg6
               have hsb6 := (show Blk (w5.alloc (.cells #[.slice A5 xn c5] 46)) wo.heap.size 31 _ from HSB5.out).grown hg6 (Pen.ne' (show Blk _ _ _ _ from HSB5.out) HOV.out (by decide))
               have HSB6 := Lib.hid hsb6
               have q3 := hsb6.cell 2
               have q3f := hsb6.frozen 2
               clear ho6 hg6 hat6 hsb6))
          have ho6 := HO6.out
          have ho5 := HO5.out
          rw [HXN.out] at ho5
          rw [show Value.slice A5 xn c5 = Value.slice A5 x.length c5 by rw [HXN.out]] at ho6
          have hov6 := HOV.out
          have hg6 := HG6.out
          have hl6 := (show LL (w5.alloc (.cells #[.slice A5 xn c5] 46)) wo.heap.size Ai j ci (ss.take j) from ⟨vals, HOV.out, HLN.out, HVI.out⟩).push HOV.out HVI.out ho6 HG6.out (by rw [← HXN.out] at ho5 ⊢; exact ho5) HLT.out
          have hl7 := hl6.put (show Blk w6 wo.heap.size 31 _ from HSB6.out) (by decide) (by decide) (a := ⟨wo.heap.size, 2, none⟩) rfl (.slice A6 (j + 1) c6)
          have hb6 := (stepB (stepB hbi.out HB5.out) (below1 w5 (.cells #[.slice A5 xn c5] 46))).grown HG6.out (stepB (stepB hbi.out HB5.out) (below1 w5 _)).size (fun j hj => (HOV.out.lt j hj).1)
          go_roundw
          case rel => exact ⟨j + 1, A6, c6, by omega, by go_num, (show Blk w6 wo.heap.size 31 _ from HSB6.out).put 2 _, by rw [HTS.out]; exact hl7, hb6.setCell (by dsimp only; omega) _⟩
          case measure => simp [intOf]; omega
end
section
variable {D : Dom} {A : Option Addr} {n c e : Nat} {l : List Stp} {w : World}
set_option maxRecDepth 100000 in
theorem rends_ok (hs : rpStp.sl w D A n c l) (hD : ∀ k, D k → k < w.heap.size) (hok : POk (e, l)) :
    Calls Try.prog 89 #[.agg (prjV e A n c)] w fun en w' => en = .returned (.tuple #[.agg (prjV e A n c), .int .i64 0]) ∧ Below w.heap.size w w' := by
  have H : Hid ((Try.prog.info? 25).map (·.size) = some 2) := by unfold Hid; kernel_rfl
  have hb0 := below2 w (.cells (prjV e A n c) 25) (.cells (prjV 0 none 0 0) 25)
  have HZ := Lib.hid hb0
  have HK := Lib.hid (blk21 w 25 25 (prjV e A n c) (prjV 0 none 0 0))
  have HR := Lib.hid (blk22 w 25 25 (prjV e A n c) (prjV 0 none 0 0))
  have he64 : e ≤ 18446744073709551615 := by have := hok.1.1.1.2; simp only at this; omega
  have her := fun w => reright_any e w he64
  rw [dec_true hok.1.1.1] at her
  have HE := Lib.hid her
  have hr := rpright_any (Rp.sl_below hs hb0 hD) (fun k hk => Nat.lt_of_lt_of_le (hD k hk) hb0.size) he64
  rw [dec_true hok] at hr
  have HRT := Lib.hid hr
  clear hs hD hb0 her hr hok
  go_enter Try.func89, Try.ntmps89
  go_wp2_with fail
  generalize World.alloc (World.alloc w _) _ = w0 at *
  have k0 := (show Blk w0 w.heap.size 25 _ from HK.out).cell 0
  have k1 := (show Blk w0 w.heap.size 25 _ from HK.out).cell 1
  go_wp2_with fail
  refine (HE.out _).mono ?_; rintro en w1 ⟨rfl, rfl⟩
  go_wp2_with fail
  refine HRT.out.mono ?_; rintro en w1 ⟨rfl, hb1⟩
  have HB1 := Lib.hid (stepB HZ.out hb1)
  have HR1 := Lib.hid (keepB (show Blk w0 (w.heap.size + 1) 25 _ from HR.out) hb1)
  have hk1 := keepB (show Blk w0 w.heap.size 25 _ from HK.out) hb1
  clear k0 k1
  have k0 := hk1.cell 0
  have k1 := hk1.cell 1
  clear hb1 hk1
  go_wp2_with (refine wpList_put_row rfl 25 (.tmp 2) (.tmp 13) rfl (w.heap.size + 1) _ rfl rfl 25 _ (show Blk _ _ _ _ from HR1.out) H.out rfl (by simp [Value.oneCell']) ?_; intro w5 hblk hgr)
  have hbz : Below w.heap.size w w5 := HB1.out.grown hgr HB1.out.size (fun k hk => by injection hk with hk; omega)
  have f0 := hblk.cell 0
  have f1 := hblk.cell 1
  exact bodyPost_ret (v := .tuple #[.agg (prjV e A n c), .int .i64 0]) (by simp [results, Try.results89, go_sem, f0, f1]) rfl ⟨rfl, hbz⟩
set_option maxRecDepth 100000 in
theorem rends_bad (cd : Int) (hs : rpStp.sl w D A n c l) (hD : ∀ k, D k → k < w.heap.size) (he64 : e ≤ 18446744073709551615) (hno : (¬ EOk e ∧ cd = 18) ∨ (EOk e ∧ ¬ POk (e, l) ∧ cd = 3)) :
    Calls Try.prog 89 #[.agg (prjV e A n c)] w fun en w' => en = .returned (.tuple #[.agg (prjV 0 none 0 0), .int .i64 cd]) ∧ Below w.heap.size w w' := by
  have H : Hid ((Try.prog.info? 25).map (·.size) = some 2) := by unfold Hid; kernel_rfl
  have hb0 := below2 w (.cells (prjV e A n c) 25) (.cells (prjV 0 none 0 0) 25)
  have HZ := Lib.hid hb0
  have HK := Lib.hid (blk21 w 25 25 (prjV e A n c) (prjV 0 none 0 0))
  have HR := Lib.hid (blk22 w 25 25 (prjV e A n c) (prjV 0 none 0 0))
  have her := fun w => reright_any e w he64
  have hr := rpright_any (Rp.sl_below hs hb0 hD) (fun k hk => Nat.lt_of_lt_of_le (hD k hk) hb0.size) he64
  clear hs hD hb0
  rcases hno with ⟨h1, rfl⟩ | ⟨h1, h2, rfl⟩
  · rw [dec_false h1] at her
    have HE := Lib.hid her
    clear her hr h1
    go_enter Try.func89, Try.ntmps89
    go_wp2_with fail
    generalize World.alloc (World.alloc w _) _ = w0 at *
    have k0 := (show Blk w0 w.heap.size 25 _ from HK.out).cell 0
    go_wp2_with fail
    refine (HE.out _).mono ?_; rintro en w1 ⟨rfl, rfl⟩
    go_wp2_with (refine wpList_put_row rfl 25 (.tmp 2) (.tmp 8) rfl (w.heap.size + 1) _ rfl rfl 25 _ (show Blk _ _ _ _ from HR.out) H.out rfl (by simp [Value.oneCell']) ?_; intro w5 hblk hgr)
    have hbz : Below w.heap.size w w5 := HZ.out.grown hgr HZ.out.size (fun k hk => by injection hk with hk; omega)
    have f0 := hblk.cell 0
    have f1 := hblk.cell 1
    exact bodyPost_ret (v := .tuple #[.agg (prjV 0 none 0 0), .int .i64 18]) (by simp [results, Try.results89, go_sem, f0, f1]) rfl ⟨rfl, hbz⟩
  · rw [dec_true h1] at her
    have HE := Lib.hid her
    rw [dec_false h2] at hr
    have HRT := Lib.hid hr
    clear her hr h1 h2
    go_enter Try.func89, Try.ntmps89
    go_wp2_with fail
    generalize World.alloc (World.alloc w _) _ = w0 at *
    have k0 := (show Blk w0 w.heap.size 25 _ from HK.out).cell 0
    have k1 := (show Blk w0 w.heap.size 25 _ from HK.out).cell 1
    go_wp2_with fail
    refine (HE.out _).mono ?_; rintro en w1 ⟨rfl, rfl⟩
    go_wp2_with fail
    refine HRT.out.mono ?_; rintro en w1 ⟨rfl, hb1⟩
    have HB1 := Lib.hid (stepB HZ.out hb1)
    have HR1 := Lib.hid (keepB (show Blk w0 (w.heap.size + 1) 25 _ from HR.out) hb1)
    clear hb1 k0 k1
    go_wp2_with (refine wpList_put_row rfl 25 (.tmp 2) (.tmp 12) rfl (w.heap.size + 1) _ rfl rfl 25 _ (show Blk _ _ _ _ from HR1.out) H.out rfl (by simp [Value.oneCell']) ?_; intro w5 hblk hgr)
    have hbz : Below w.heap.size w w5 := HB1.out.grown hgr HB1.out.size (fun k hk => by injection hk with hk; omega)
    have f0 := hblk.cell 0
    have f1 := hblk.cell 1
    exact bodyPost_ret (v := .tuple #[.agg (prjV 0 none 0 0), .int .i64 3]) (by simp [results, Try.results89, go_sem, f0, f1]) rfl ⟨rfl, hbz⟩
end
end Go.Proofs.Ytmdgmnaaopineaa
