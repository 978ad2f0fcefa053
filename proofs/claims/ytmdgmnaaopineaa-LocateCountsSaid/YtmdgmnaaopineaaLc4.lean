/- The walk of the law LocateCounts. -/
import Derived.Test.YtmdgmnaaopineaaLc1
import Derived.Test.YtmdgmnaaopineaaLc2
import Derived.Test.YtmdgmnaaopineaaLc3
namespace Go.Proofs.Ytmdgmnaaopineaa
open Go.ChangeShapes Go.WideShapes Go.ChangeAt Go.RowKit
set_option linter.unusedVariables false
abbrev rpPrjC : Rp (Nat × List Stp) := rpPair rpU64 (rpSlice rpStp)
theorem lcprj_open {w : World} {D : Dom} {x : Nat × List Stp} {cs : List Value} (h : rpPrjC.ok w D x cs) : ∃ A c, cs = [.int .u64 (x.1 : Int), .slice A x.2.length c] ∧ rpStp.sl w D A x.2.length c x.2 ∧ x.1 ≤ 18446744073709551615 := by
  obtain ⟨cs1, cs2, rfl, ⟨rfl, q1⟩, h4⟩ := h
  obtain ⟨A, c, rfl, hs⟩ := Rp.sl_form h4
  exact ⟨A, c, rfl, hs, by omega⟩
theorem rises_pair {l : List Nat} (h : l.Pairwise (· < ·)) : Rises l := fun i a b ha hb => by
  obtain ⟨hi, rfl⟩ := List.getElem?_eq_some_iff.1 ha
  obtain ⟨hj, rfl⟩ := List.getElem?_eq_some_iff.1 hb
  exact List.pairwise_iff_getElem.1 h i (i + 1) hi hj (by omega)
section
variable {D : Dom} {A : Option Addr} {n c e x B : Nat} {l : List Stp} {w : World}
set_option maxRecDepth 100000 in
set_option maxHeartbeats 8000000 in
theorem lcnts_any (hs : rpStp.sl w D A n c l) (hD : ∀ k, D k → k < w.heap.size) (he : e ≤ 18446744073709551615) (hx : x ≤ 18446744073709551615) (hBB : B ≤ 18446744073709551615) :
    Calls Try.prog 14 #[.agg (prjV e A n c), .int .u64 (x : Int), .int .u64 (B : Int)] w fun en w' => en = .returned (.bool true) ∧ Below w.heap.size w w' := by
  have hb0 := below1 w (.cells (prjV e A n c) 25)
  have HS0 := Lib.hid (keepS (show Sl rpStp w D A n c l from ⟨hs, hD⟩) hb0)
  have HLV := Lib.hid (fun w => lclive_any w)
  have HB0 := Lib.hid hb0
  have HK0 := Lib.hid (blk11 w 25 (prjV e A n c))
  have HPL := Lib.hid (plong_any (e := e) HS0.out.1 HS0.out.2)
  clear hs hD hb0
  go_enter Try.func14, Try.ntmps14
  go_upto_region 1 with (fail)
  generalize World.alloc w _ = w0 at *
  have k0 := (show Blk w0 w.heap.size 25 _ from HK0.out).cell 0
  have k1 := (show Blk w0 w.heap.size 25 _ from HK0.out).cell 1
  go_wp2_with fail
  refine HPL.out.mono ?_; rintro en w1 ⟨bb, rfl, hb⟩
  have HS1 := Lib.hid (keepS HS0.out hb)
  have HB1 := Lib.hid (stepB HB0.out hb)
  have HK1 := Lib.hid (keepB (show Blk _ w.heap.size 25 (prjV e A n c) from HK0.out) hb)
  clear k0 k1 hb
  have k0 := HK1.out.cell 0
  have k1 := HK1.out.cell 1
  cases bb
  case true =>
    go_wp2_with fail
    refine (HLV.out _).mono ?_; rintro en w9 ⟨rfl, hb⟩
    go_wp2_with fail
    go_ret
    exact ⟨rfl, stepB HB1.out hb⟩
  case false =>
  by_cases hok : POk (e, l)
  case neg =>
    have HND := Lib.hid (lnodes_bad HS1.out.1 HS1.out.2 he hok)
    have hrt := fun (w2 : World) (h : Below w1.heap.size w1 w2) => rpright_any (e := e) (keepS HS1.out h).1 (keepS HS1.out h).2 he
    rw [dec_false hok] at hrt
    have HRT := Lib.hid hrt
    have HCB := Lib.hid (fun (w2 : World) (h : Below w1.heap.size w1 w2) => lcount_bad x B (keepS HS1.out h).1 (keepS HS1.out h).2 he hok)
    clear hrt hok
    go_wp2_with fail
    refine HND.out.mono ?_; rintro en w2 ⟨rfl, hb⟩
    have HB12 := Lib.hid hb
    have HS2 := Lib.hid (keepS HS1.out hb)
    have HB2 := Lib.hid (stepB HB1.out hb)
    have HK2 := Lib.hid (keepB (show Blk _ w.heap.size 25 (prjV e A n c) from HK1.out) hb)
    clear k0 k1 hb
    have k0 := HK2.out.cell 0
    have k1 := HK2.out.cell 1
    go_wp2_with fail
    refine (HRT.out _ HB12.out).mono ?_; rintro en w3 ⟨rfl, hb⟩
    have HB13 := Lib.hid (stepB HB12.out hb)
    have HS3 := Lib.hid (keepS HS2.out hb)
    have HB3 := Lib.hid (stepB HB2.out hb)
    have HK3 := Lib.hid (keepB (show Blk _ w.heap.size 25 (prjV e A n c) from HK2.out) hb)
    clear k0 k1 hb
    have k0 := HK3.out.cell 0
    have k1 := HK3.out.cell 1
    go_wp2_with fail
    refine (HCB.out _ HB13.out).mono ?_; rintro en w4 ⟨rfl, hb⟩
    have HB14 := Lib.hid (stepB HB3.out hb)
    clear k0 k1 hb
    go_wp2_with fail
    refine (HLV.out _).mono ?_; rintro en w9 ⟨rfl, hb⟩
    go_wp2_with fail
    go_ret
    exact ⟨rfl, stepB HB14.out hb⟩
  case pos =>
    have HOK := Lib.hid hok
    have HND := Lib.hid (lnodes_any HS1.out.1 HS1.out.2 he hok)
    have hrt := fun (w2 : World) (h : Below w1.heap.size w1 w2) => rpright_any (e := e) (keepS HS1.out h).1 (keepS HS1.out h).2 he
    rw [dec_true hok] at hrt
    have HRT := Lib.hid hrt
    clear hrt hok
    go_wp2_with fail
    refine HND.out.mono ?_; rintro en w2 ⟨An, m, cn, nd, rfl, hln, hor, hnd, hb⟩
    have HB12 := Lib.hid hb
    have HLN := Lib.hid hln
    have HNI := Lib.hid hnd
    have HNS2 : Hid (Sl rpU64 w2 (fun k => some k = (Value.slice An m cn).ownBlock) An m cn nd) := ⟨own_u64 hor (nodesIs_lt HOK.out hnd), own_dom hor⟩
    have hm64 : m ≤ 9223372036854775807 := by
      have h1 := (Rp.sl_len HNS2.out.1).2
      unfold maxLen at h1
      omega
    have HS2 := Lib.hid (keepS HS1.out hb)
    have HB2 := Lib.hid (stepB HB1.out hb)
    have HK2 := Lib.hid (keepB (show Blk _ w.heap.size 25 (prjV e A n c) from HK1.out) hb)
    clear k0 k1 hb hln hor hnd
    have k0 := HK2.out.cell 0
    have k1 := HK2.out.cell 1
    go_wp2_with fail
    refine (HRT.out _ HB12.out).mono ?_; rintro en w3 ⟨rfl, hb⟩
    have HS3 := Lib.hid (keepS HS2.out hb)
    have HB3 := Lib.hid (stepB HB2.out hb)
    have HK3 := Lib.hid (keepB (show Blk _ w.heap.size 25 (prjV e A n c) from HK2.out) hb)
    have HNS3 := Lib.hid (keepS HNS2.out hb)
    obtain ⟨Q, hQ⟩ : ∃ Q, Q = B % 300 := ⟨_, rfl⟩
    have hQ3 : Q < 300 := by omega
    have hmod : Int.tmod (B : Int) 300 = (Q : Int) := by rw [Int.tmod_eq_emod_of_nonneg (by omega)]; omega
    clear k0 k1 hb hQ
    go_upto_region 7 with (fail)
    clear hmod
    obtain ⟨N, hN⟩ : ∃ N, N = cnt l x Q := ⟨_, rfl⟩
    have HN := Lib.hid hN
    have HN2 : Hid (N = cnt l x (min Q 4611686018427387904)) := by show _ = _; rw [Nat.min_eq_left (by omega)]; exact hN
    clear hN
    have q0 : ∀ q : Gr w3.heap.size w3, q.val.cell? ⟨w.heap.size, 0, none⟩ = some (.int .u64 (e : Int)) := fun q => (q.is.cell (p := ⟨w.heap.size, 0, none⟩) HK3.out.lt).trans (HK3.out.cell 0)
    have q1 : ∀ q : Gr w3.heap.size w3, q.val.cell? ⟨w.heap.size, 1, none⟩ = some (.slice A n c) := fun q => (q.is.cell (p := ⟨w.heap.size, 1, none⟩) HK3.out.lt).trans (HK3.out.cell 1)
    have HC1 : Hid (∀ u, Below w3.heap.size w3 u → Calls Try.prog 71 #[.agg (prjV e A n c), .int .u64 (x : Int), .int .u64 (Q : Int)] u fun en w' => en = .returned (.int .u64 (N : Int)) ∧ Below u.heap.size u w') := fun u hu => lcount_any (keepS HS3.out hu).1 (keepS HS3.out hu).2 he HOK.out (by omega) HN2.out
    have HC2 : Hid (∀ u, Below w3.heap.size w3 u → Calls Try.prog 72 #[.agg (prjV e A n c), .int .u64 (x : Int), .int .u64 (Q : Int)] u fun en w' => en = .returned (.int .u64 (N : Int)) ∧ Below u.heap.size u w') := fun u hu => rcount_any (keepS HS3.out hu).1 (keepS HS3.out hu).2 he HOK.out (by omega) HN.out
    have HC3 : Hid (∀ u, Below w3.heap.size w3 u → Calls Try.prog 69 #[.slice An m cn] u fun en w' => en = .returned (.bool true) ∧ Below u.heap.size u w') := fun u hu => by
      have h := rises_ref (keepS HNS3.out hu).1 (keepS HNS3.out hu).2
      rw [dec_true (rises_pair HNI.out.1)] at h
      exact h
    refine wp_region_grow (by kernel_rfl) (by kernel_rfl) w3.heap.size ?_
    repeat (first | go_big_quiet_step (first | (go_at_call 71; exact Gr.call _ (Nat.le_refl _) (HC1.out _ (Gr.is _))) | (go_at_call 72; exact Gr.call _ (Nat.le_refl _) (HC2.out _ (Gr.is _))) | (go_at_call 69; exact Gr.call _ (Nat.le_refl _) (HC3.out _ (Gr.is _)))) | quiet_step (first | (go_at_call 71; exact Gr.call _ (Nat.le_refl _) (HC1.out _ (Gr.is _))) | (go_at_call 72; exact Gr.call _ (Nat.le_refl _) (HC2.out _ (Gr.is _))) | (go_at_call 69; exact Gr.call _ (Nat.le_refl _) (HC3.out _ (Gr.is _)))))
    refine wpQuiet_nil ?_
    rintro w4 ⟨⟨_, hb⟩, rfl⟩
    have HS4 := Lib.hid (keepS HS3.out hb)
    have HB4 := Lib.hid (stepB HB3.out hb)
    have HK4 := Lib.hid (keepB (show Blk _ w.heap.size 25 (prjV e A n c) from HK3.out) hb)
    have HNS4 := Lib.hid (keepS HNS3.out hb)
    clear q0 q1 hb HC1 HC2 HC3 HN HN2
    go_wp2_with fail
    have HTOT := Lib.hid (sum_all (B := Q) HOK.out HNI.out (by omega))
    have HTLE := Lib.hid (want_le (B := Q) HOK.out (by omega))
    go_loopw [8, 10] (fun v8 v10 wr => ∃ (i S : Nat), i ≤ m ∧ v8 = .int .u64 (S : Int) ∧ v10 = .int .i64 (i : Int) ∧ Hid (S = sumUp (fun i => cnt l (nd.getD i 0) Q) i) ∧ Hid (Below w4.heap.size w4 wr)) (fun _ v10 _ => m - (intOf v10).toNat)
    case atStart => exact ⟨0, 0, by omega, rfl, rfl, rfl, Below.refl _ _⟩
    case round =>
      obtain ⟨i, S, hi, rfl, rfl, hS, hbel⟩ := hrel
      obtain ⟨w5, hw5⟩ : ∃ w5, w5 = wr := ⟨_, rfl⟩
      subst hw5
      have hb := hbel.out
      have HS5 := Lib.hid (keepS HS4.out hb)
      have HB5 := Lib.hid (stepB HB4.out hb)
      have HK5 := Lib.hid (keepB (show Blk _ w.heap.size 25 (prjV e A n c) from HK4.out) hb)
      have HNS5 := Lib.hid (keepS HNS4.out hb)
      clear hb
      by_cases him : i < m
      case pos =>
        have hd : decide ((i : Int) < (m : Int)) = true := by simp; omega
        obtain ⟨b, off, y, rfl, hDb, hy, gy, hy64⟩ := u64_at HNS5.out.1 him
        have hblt := HNS5.out.2 b hDb
        obtain ⟨X, hX⟩ : ∃ X, X = cnt l y Q := ⟨_, rfl⟩
        have hyd : nd.getD i 0 = y := by rw [List.getD_eq_getElem?_getD, hy]; rfl
        have hS1 : S + X = sumUp (fun i => cnt l (nd.getD i 0) Q) (i + 1) := by
          show S + X = sumUp (fun i => cnt l (nd.getD i 0) Q) i + cnt l (nd.getD i 0) Q
          rw [hyd, ← hX, ← hS.out]
        have hle := sumUp_mono (fun i => cnt l (nd.getD i 0) Q) m (show i + 1 ≤ m by omega)
        have ht1 := HTOT.out
        rw [HLN.out] at ht1
        rw [← hS1, ht1] at hle
        have hle2 := HTLE.out
        have HS1 := Lib.hid hS1
        have hw : IntKind.u64.wrap ((S : Int) + (X : Int)) = ((S + X : Nat) : Int) := by rw [IntWalk.u64_in _ (by omega)]; omega
        have hiI : (0 : Int) ≤ (i : Int) := by omega
        have hiI2 : (i : Int) < (m : Int) := by omega
        have HX2 : Hid (X = cnt l y (min Q 4611686018427387904)) := by show _ = _; rw [Nat.min_eq_left (by omega)]; exact hX
        have HC1 : Hid (∀ u, Below w5.heap.size w5 u → Calls Try.prog 71 #[.agg (prjV e A n c), .int .u64 (y : Int), .int .u64 (Q : Int)] u fun en w' => en = .returned (.int .u64 (X : Int)) ∧ Below u.heap.size u w') := fun u hu => lcount_any (keepS HS5.out hu).1 (keepS HS5.out hu).2 he HOK.out (by omega) HX2.out
        have q0 : ∀ q : Gr w5.heap.size w5, q.val.cell? ⟨w.heap.size, 0, none⟩ = some (.int .u64 (e : Int)) := fun q => (q.is.cell (p := ⟨w.heap.size, 0, none⟩) HK5.out.lt).trans (HK5.out.cell 0)
        have q1 : ∀ q : Gr w5.heap.size w5, q.val.cell? ⟨w.heap.size, 1, none⟩ = some (.slice A n c) := fun q => (q.is.cell (p := ⟨w.heap.size, 1, none⟩) HK5.out.lt).trans (HK5.out.cell 1)
        have q2 : ∀ q : Gr w5.heap.size w5, q.val.cell? ⟨b, off + i, none⟩ = some (.int .u64 (y : Int)) := fun q => (q.is.cell (p := ⟨b, off + i, none⟩) hblt).trans gy
        clear hS1 hle ht1 hle2 hX hyd hy gy hDb
        go_upto_region 13 with (fail)
        refine wp_region_grow (by kernel_rfl) (by kernel_rfl) w5.heap.size ?_
        repeat (first | go_big_quiet_step ((go_at_call 71; exact Gr.call _ (Nat.le_refl _) (HC1.out _ (Gr.is _)))) | quiet_step ((go_at_call 71; exact Gr.call _ (Nat.le_refl _) (HC1.out _ (Gr.is _)))))
        refine wpQuiet_nil ?_
        rintro w6 ⟨⟨_, hb⟩, rfl⟩
        have HBR := Lib.hid (stepB hbel.out hb)
        clear q0 q1 q2 hb
        go_wp2_with fail
        go_roundw
        case rel => exact ⟨i + 1, S + X, by omega, rfl, by go_num, HS1, HBR⟩
        case measure => clear hw; simp [intOf]; omega
      case neg =>
        obtain rfl : i = m := by omega
        have hd : decide ((i : Int) < (i : Int)) = false := by simp
        have HST : Hid (S = sumUp (fun p => (nodesAt l p).length) Q) := by
          have h := HTOT.out
          rw [HLN.out, ← hS.out] at h
          exact h
        go_upto_region 15 with (fail)
        go_loopw [9, 11] (fun v9 v11 wr => ∃ (p W : Nat), p ≤ Q ∧ v9 = .int .u64 (W : Int) ∧ v11 = .int .u64 (p : Int) ∧ Hid (W = sumUp (fun p => (nodesAt l p).length) p) ∧ Hid (Below w5.heap.size w5 wr)) (fun _ v11 _ => Q - (intOf v11).toNat)
        case atStart => exact ⟨0, 0, by omega, rfl, rfl, rfl, Below.refl _ _⟩
        case round =>
          obtain ⟨p, W, hp, rfl, rfl, hW, hbel2⟩ := hrel
          obtain ⟨w6, hw6⟩ : ∃ w6, w6 = wr := ⟨_, rfl⟩
          subst hw6
          have hb := hbel2.out
          have HS6 := Lib.hid (keepS HS5.out hb)
          have HB6 := Lib.hid (stepB HB5.out hb)
          have HK6 := Lib.hid (keepB (show Blk _ w.heap.size 25 (prjV e A n c) from HK5.out) hb)
          have HNS6 := Lib.hid (keepS HNS5.out hb)
          clear hb
          have k0 := HK6.out.cell 0
          have k1 := HK6.out.cell 1
          by_cases hpQ : p < Q
          case pos =>
            have hd2 : decide (p < Q) = true := by simpa using hpQ
            obtain ⟨r, s, hin⟩ := inStripe_some (x := p) HOK.out (show p < 4611686018427387904 by omega)
            obtain ⟨o, A', c', ho, hsl, hcall⟩ := rnodes_ok (e := e) p HS6.out.1 HS6.out.2 he (by omega) HOK.out (show p < 4611686018427387904 by omega) hin
            have hnn := nodesAt_some HOK.out hin ho
            have HC := Lib.hid (hcall w6 (Below.refl _ _))
            obtain ⟨X, hX⟩ : ∃ X, X = o.length := ⟨_, rfl⟩
            rw [← hX] at HC
            have hW1 : W + X = sumUp (fun p => (nodesAt l p).length) (p + 1) := by
              show W + X = sumUp (fun p => (nodesAt l p).length) p + (nodesAt l p).length
              rw [hnn, ← hX, ← hW.out]
            have hle := sumUp_mono (fun p => (nodesAt l p).length) Q (show p + 1 ≤ Q by omega)
            rw [← hW1] at hle
            have hle2 := HTLE.out
            have HW1 := Lib.hid hW1
            have hw : IntKind.u64.wrap ((W : Int) + (X : Int)) = ((W + X : Nat) : Int) := by rw [IntWalk.u64_in _ (by omega)]; omega
            have hwx : IntKind.u64.wrap (X : Int) = (X : Int) := by rw [IntWalk.u64_in _ (by omega)]
            have hwp : IntKind.u64.wrap ((p : Int) + 1) = ((p + 1 : Nat) : Int) := by rw [IntWalk.u64_in _ (by omega)]; omega
            clear hin ho hsl hcall hnn hX hW1 hle hle2
            go_wp2_with fail
            refine HC.out.mono ?_; rintro en w7 ⟨rfl, hb⟩
            have HBR := Lib.hid (stepB hbel2.out hb)
            clear hb k0 k1
            go_wp2_with fail
            go_roundw
            case rel => exact ⟨p + 1, W + X, by omega, rfl, rfl, HW1, HBR⟩
            case measure => clear hw hwx hwp; simp [intOf]; omega
          case neg =>
            obtain rfl : p = Q := by omega
            have hd2 : decide (p < p) = false := by simp
            obtain rfl : S = W := by rw [HST.out, hW.out]
            obtain ⟨M, hM⟩ : ∃ M, M = cnt l x 4611686018427387904 := ⟨_, rfl⟩
            have HM : Hid (M = cnt l x (min 4611686018427387904 4611686018427387904)) := hM
            have hh := has_any x HNS6.out.1
            by_cases hxn : x ∈ nd
            · rw [dec_true hxn] at hh
              have HH := Lib.hid hh
              clear hh hM hxn
              go_wp2_with fail
              refine HH.out.mono ?_; rintro en w7 ⟨rfl, hw7⟩
              subst hw7
              clear k0 k1
              go_upto_region 20 with (fail)
              have q0 : ∀ q : Gr w6.heap.size w6, q.val.cell? ⟨w.heap.size, 0, none⟩ = some (.int .u64 (e : Int)) := fun q => (q.is.cell (p := ⟨w.heap.size, 0, none⟩) HK6.out.lt).trans (HK6.out.cell 0)
              have q1 : ∀ q : Gr w6.heap.size w6, q.val.cell? ⟨w.heap.size, 1, none⟩ = some (.slice A n c) := fun q => (q.is.cell (p := ⟨w.heap.size, 1, none⟩) HK6.out.lt).trans (HK6.out.cell 1)
              have HCB : Hid (∀ (b : Int) u, (b = 9223372036854775808 ∨ b = 4611686018427387904) → Below w6.heap.size w6 u → Calls Try.prog 71 #[.agg (prjV e A n c), .int .u64 (x : Int), .int .u64 b] u fun en w' => en = .returned (.int .u64 (M : Int)) ∧ Below u.heap.size u w') := fun b u hb hu => by
                rcases hb with rfl | rfl
                · exact lcount_any (B := 9223372036854775808) (keepS HS6.out hu).1 (keepS HS6.out hu).2 he HOK.out (by decide) HM.out
                · exact lcount_any (B := 4611686018427387904) (keepS HS6.out hu).1 (keepS HS6.out hu).2 he HOK.out (by decide) HM.out
              have HLW : Hid (∀ u, Below w6.heap.size w6 u → Calls Try.prog 26 #[] u fun en w' => en = .returned (.bool true) ∧ Below u.heap.size u w') := fun u _ => HLV.out u
              refine wp_region_grow (by kernel_rfl) (by kernel_rfl) w6.heap.size ?_
              repeat (first | go_big_quiet_step (first | (go_at_call 26; exact Gr.call _ (Nat.le_refl _) (HLW.out _ (Gr.is _))) | (go_at_call 71; exact Gr.call _ (Nat.le_refl _) (HCB.out _ _ (by decide) (Gr.is _)))) | quiet_step (first | (go_at_call 26; exact Gr.call _ (Nat.le_refl _) (HLW.out _ (Gr.is _))) | (go_at_call 71; exact Gr.call _ (Nat.le_refl _) (HCB.out _ _ (by decide) (Gr.is _)))))
              refine wpQuiet_nil ?_
              rintro w9 ⟨⟨_, hb⟩, rfl⟩
              clear q0 q1
              go_wp2_with fail
              go_ret
              exact ⟨rfl, stepB HB6.out hb⟩
            · rw [dec_false hxn] at hh
              have HH := Lib.hid hh
              obtain rfl : M = 0 := by rw [hM]; exact cnt_out HOK.out HNI.out (Nat.le_refl _) hxn
              have HC0 : Hid (Calls Try.prog 71 #[.agg (prjV e A n c), .int .u64 (x : Int), .int .u64 4611686018427387904] w6 fun en w' => en = .returned (.int .u64 0) ∧ Below w6.heap.size w6 w') := lcount_any (B := 4611686018427387904) HS6.out.1 HS6.out.2 he HOK.out (by decide) HM.out
              clear hh hM hxn
              go_wp2_with fail
              refine HH.out.mono ?_; rintro en w7 ⟨rfl, hw7⟩
              subst hw7
              go_wp2_with fail
              refine HC0.out.mono ?_; rintro en w7 ⟨rfl, hb⟩
              have HS7 := Lib.hid (keepS HS6.out hb)
              have HB7 := Lib.hid (stepB HB6.out hb)
              have HK7 := Lib.hid (keepB (show Blk _ w.heap.size 25 (prjV e A n c) from HK6.out) hb)
              clear k0 k1 hb
              go_upto_region 20 with (fail)
              have q0 : ∀ q : Gr w7.heap.size w7, q.val.cell? ⟨w.heap.size, 0, none⟩ = some (.int .u64 (e : Int)) := fun q => (q.is.cell (p := ⟨w.heap.size, 0, none⟩) HK7.out.lt).trans (HK7.out.cell 0)
              have q1 : ∀ q : Gr w7.heap.size w7, q.val.cell? ⟨w.heap.size, 1, none⟩ = some (.slice A n c) := fun q => (q.is.cell (p := ⟨w.heap.size, 1, none⟩) HK7.out.lt).trans (HK7.out.cell 1)
              have HCB : Hid (∀ (b : Int) u, (b = 9223372036854775808 ∨ b = 4611686018427387904) → Below w7.heap.size w7 u → Calls Try.prog 71 #[.agg (prjV e A n c), .int .u64 (x : Int), .int .u64 b] u fun en w' => en = .returned (.int .u64 ((0 : Nat) : Int)) ∧ Below u.heap.size u w') := fun b u hb hu => by
                rcases hb with rfl | rfl
                · exact lcount_any (B := 9223372036854775808) (keepS HS7.out hu).1 (keepS HS7.out hu).2 he HOK.out (by decide) HM.out
                · exact lcount_any (B := 4611686018427387904) (keepS HS7.out hu).1 (keepS HS7.out hu).2 he HOK.out (by decide) HM.out
              have HLW : Hid (∀ u, Below w7.heap.size w7 u → Calls Try.prog 26 #[] u fun en w' => en = .returned (.bool true) ∧ Below u.heap.size u w') := fun u _ => HLV.out u
              refine wp_region_grow (by kernel_rfl) (by kernel_rfl) w7.heap.size ?_
              repeat (first | go_big_quiet_step (first | (go_at_call 26; exact Gr.call _ (Nat.le_refl _) (HLW.out _ (Gr.is _))) | (go_at_call 71; exact Gr.call _ (Nat.le_refl _) (HCB.out _ _ (by decide) (Gr.is _)))) | quiet_step (first | (go_at_call 26; exact Gr.call _ (Nat.le_refl _) (HLW.out _ (Gr.is _))) | (go_at_call 71; exact Gr.call _ (Nat.le_refl _) (HCB.out _ _ (by decide) (Gr.is _)))))
              refine wpQuiet_nil ?_
              rintro w9 ⟨⟨_, hb⟩, rfl⟩
              clear q0 q1
              go_wp2_with fail
              go_ret
              exact ⟨rfl, stepB HB7.out hb⟩
theorem locateCounts_st (cs : Array Value) (p : Nat × List Stp) (x B : Int) (w : World) (hp : rpPrjC.ok w (lt w.heap.size) p cs.toList) (x0 : 0 ≤ x) (x1 : x ≤ 18446744073709551615) (b0 : 0 ≤ B) (b1 : B ≤ 18446744073709551615) :
    Calls Try.prog 14 #[.agg cs, .int .u64 x, .int .u64 B] w fun e w' => e = .returned (.bool true) ∧ Below w.heap.size w w' := by
  obtain ⟨A, c, hcs, hs, he⟩ := lcprj_open hp
  obtain ⟨q, rfl⟩ : ∃ q : Nat, x = q := ⟨x.toNat, by omega⟩
  obtain ⟨r, rfl⟩ : ∃ r : Nat, B = r := ⟨B.toNat, by omega⟩
  rw [agg_of hcs]
  exact lcnts_any hs (fun k hk => hk) he (by omega) (by omega)
end
end Go.Proofs.Ytmdgmnaaopineaa
